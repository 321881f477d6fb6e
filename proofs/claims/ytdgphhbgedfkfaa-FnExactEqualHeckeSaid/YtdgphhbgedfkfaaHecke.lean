/- Whether two lists of terms are equal. Condition: sizes up to 2^24. -/
import Derived.Test.YtdgphhbgedfkfaaLawTerm
import Derived.Test.YtdgphhbgedfkfaaWords
import Derived.Deep.RegionWith
namespace Go.Proofs.Ytdgphhbgedfkfaa
open Go.RowKit

def eqTr (x y : Trm) : Bool := if eqL x.1 y.1 then eqL x.2 y.2 else false
def eqHk : List Trm → List Trm → Bool
  | x :: xs, y :: ys => if eqTr x y then eqHk xs ys else false
  | [], [] => true
  | _, _ => false

theorem eqHk_len : ∀ {L L' : List Trm}, L.length ≠ L'.length → eqHk L L' = false
  | [], [], h => by simp at h
  | [], _ :: _, _ => rfl
  | _ :: _, [], _ => rfl
  | x :: xs, y :: ys, h => by
    unfold eqHk
    rw [eqHk_len (by simpa using h)]
    simp

set_option maxHeartbeats 1000000 in
theorem equalHeckeSpec {S S' : Nat → Prop} {u v : Value} {L L' : List Trm} {w : World} (h : RT S w u L) (h' : RT S' w v L') (hl : totalT L ≤ 16777216) (hl' : totalT L' ≤ 16777216) :
    Calls Try.prog 36 #[u, v] w fun e w' => e = .returned (.bool (eqHk L L')) ∧ ∃ m, w' = w.drewN m := by
  obtain ⟨a, cap, rfl⟩ := h.form
  obtain ⟨a', cap', rfl⟩ := h'.form
  have hn0 : L.length ≤ 16777216 := by unfold totalT at hl; omega
  by_cases hlen : L.length = L'.length
  · generalize hr : eqHk L L' = r
    have R : Hid (eqHk (L.drop 0) (L'.drop 0) = r) := Lib.hid hr
    clear hr
    rw [← hlen] at h' ⊢
    generalize hn : L.length = n at *
    have H := Lib.hid hn
    have H' := Lib.hid hlen
    clear hn hlen
    go_enter Try.func36, Try.ntmps36
    go_wp2_with fail
    go_loopw [5] (fun i wr => ∃ (k : Nat), k ≤ n ∧ i = .int .i64 k ∧ (∃ m, wr = w.drewN m) ∧ Hid (eqHk (L.drop k) (L'.drop k) = r)) (fun i _ => n - (intOf i).toNat)
    case atStart => exact ⟨0, Nat.zero_le _, rfl, dr0, R⟩
    case round =>
      obtain ⟨k, hk, rfl, ⟨m, hw⟩, HR⟩ := hrel
      have h := h.drewN m
      have h' := h'.drewN m
      rw [← hw] at h h'
      have HW := Lib.hid hw
      clear hw
      by_cases hlt : k < n
      · obtain ⟨b, o, r1, r2, x, rfl, hc, hd, ⟨hr1, hr2⟩, hx⟩ := h.at hlt
        obtain ⟨b', o', r3, r4, y, rfl, hc', hd', ⟨hr3, hr4⟩, hy⟩ := h'.at hlt
        obtain ⟨l1, p1⟩ := x
        obtain ⟨l2, p2⟩ := y
        have hll : l1.length ≤ 16777216 := by have := term_le (List.mem_of_getElem? hx.out); simp at this; omega
        have hll' : l2.length ≤ 16777216 := by have := term_le (List.mem_of_getElem? hy.out); simp at this; omega
        have hlp : p1.length ≤ 16777216 := by have := term_le (List.mem_of_getElem? hx.out); simp at this; omega
        have hlp' : p2.length ≤ 16777216 := by have := term_le (List.mem_of_getElem? hy.out); simp at this; omega
        have b1 : (k : Int) < (n : Int) := by omega
        have HR2 : Hid ((if (if eqL l1 l2 then eqL p1 p2 else false) then eqHk (L.drop (k + 1)) (L'.drop (k + 1)) else false) = r) := by
          have := HR.out
          rw [drop_step hx.out, drop_step hy.out, eqHk, eqTr] at this
          exact Lib.hid this
        have HC : ∀ n, Calls Try.prog 64 #[r1, r3] (wr.drewN n) fun e w' => e = .returned (.bool (eqL l1 l2)) ∧ ∃ m, w' = (wr.drewN n).drewN m := fun n => equalWordsSpec (hr1.drewN n) (hr3.drewN n) hll hll'
        have HD : ∀ n, Calls Try.prog 64 #[r2, r4] (wr.drewN n) fun e w' => e = .returned (.bool (eqL p1 p2)) ∧ ∃ m, w' = (wr.drewN n).drewN m := fun n => equalWordsSpec (hr2.drewN n) (hr4.drewN n) hlp hlp'
        generalize eqL l1 l2 = q1 at *
        generalize eqL p1 p2 = q2 at *
        have HC := Lib.hid HC
        have HD := Lib.hid HD
        clear hr1 hr2 hr3 hr4
        cases q1
        · have HR3 : Hid (false = r) := by have := HR2.out; exact Lib.hid (by simpa using this)
          go_wp2_with fail
          go_quiet ((go_at_call_of 64 (r1); exact Calls.quiet_of (HC.out _)))
          go_wp2_with fail
          go_ret
          exact ⟨ret_bool HR3.out, m + nq, by rw [HW.out]; simp⟩
        · cases q2
          · have HR3 : Hid (false = r) := by have := HR2.out; exact Lib.hid (by simpa using this)
            go_wp2_with fail
            go_quiet (first | (go_at_call_of 64 (r1); exact Calls.quiet_of (HC.out _)) | (go_at_call_of 64 (r2); exact Calls.quiet_of (HD.out _)))
            go_wp2_with fail
            go_ret
            exact ⟨ret_bool HR3.out, m + nq, by rw [HW.out]; simp⟩
          · have HR3 : Hid (eqHk (L.drop (k + 1)) (L'.drop (k + 1)) = r) := by have := HR2.out; exact Lib.hid (by simpa using this)
            go_wp2_with fail
            go_quiet (first | (go_at_call_of 64 (r1); exact Calls.quiet_of (HC.out _)) | (go_at_call_of 64 (r2); exact Calls.quiet_of (HD.out _)))
            go_wp2_with fail
            go_roundw
            case rel => exact ⟨k + 1, by omega, by go_num, ⟨m + nq, by rw [HW.out]; simp⟩, HR3⟩
            case measure => simp [intOf]; omega
      · go_wp2_with fail
        go_ret
        refine ⟨ret_bool ?_, m, HW.out⟩
        have := HR.out
        rw [List.drop_eq_nil_of_le (by have := H.out; omega), List.drop_eq_nil_of_le (by have := H.out; have := H'.out; omega)] at this
        exact this
  · have hne : ((L.length : Int) != (L'.length : Int)) = true := by simp; omega
    have E := Lib.hid (eqHk_len hlen)
    generalize eqHk L L' = r at *
    generalize L.length = n at *
    generalize L'.length = n' at *
    go_enter Try.func36, Try.ntmps36
    go_wp2_with fail
    go_ret
    exact ⟨ret_bool E.out.symm, 0, rfl⟩

set_option maxHeartbeats 400000 in
theorem equalHeckeOne {S S' S2 S2' : Nat → Prop} {r r' q q' : Value} {l l' p p' : List Int} {w : World} (h : RI S w r l) (hp : RI S2 w q p) (h' : RI S' w r' l') (hp' : RI S2' w q' p')
    (hl : l.length ≤ 16777216) (hl' : l'.length ≤ 16777216) (hlp : p.length ≤ 16777216) (hlp' : p'.length ≤ 16777216) :
    Calls Try.prog 71 #[.agg #[r, q], .agg #[r', q']] w fun e w' => e = .returned (.bool (eqTr (l, p) (l', p'))) ∧ Below w.heap.size w w' := by
  obtain ⟨a, cap, rfl⟩ := h.form
  obtain ⟨a', cap', rfl⟩ := h'.form
  obtain ⟨a2, cap2, rfl⟩ := hp.form
  obtain ⟨a2', cap2', rfl⟩ := hp'.form
  have E : Hid (eqTr (l, p) (l', p') = if eqL l l' then eqL p p' else false) := Lib.hid rfl
  go_enter Try.func71, Try.ntmps71
  go_wp2_with fail
  have bb := ((Below.refl w.heap.size w).alloc (Nat.le_refl _) (.cells #[.slice a l.length cap, .slice a2 p.length cap2] 74)).alloc (by simp) (.cells #[.slice a' l'.length cap', .slice a2' p'.length cap2'] 74)
  refine (slicesEqual (h.below bb) (h'.below bb) hl hl').mono ?_
  rintro e w' ⟨rfl, m, rfl⟩
  have bb2 := below_drewN bb m
  cases hq : eqL l l'
  · go_wp2_with fail
    go_ret
    exact ⟨ret_bool (by rw [E.out, hq]; rfl), bb2⟩
  · go_wp2_with fail
    refine (slicesEqual (hp.below bb2) (hp'.below bb2) hlp hlp').mono ?_
    rintro e w' ⟨rfl, m2, rfl⟩
    go_wp2_with fail
    go_ret
    exact ⟨ret_bool (by rw [E.out, hq]; rfl), by first | exact below_drewN bb2 m2 | exact below_drewN bb _⟩

set_option maxHeartbeats 1000000 in
theorem equalFuncHecke {S S' : Nat → Prop} {u v : Value} {L L' : List Trm} {w : World} (h : RT S w u L) (h' : RT S' w v L') (hl : totalT L ≤ 16777216) (hl' : totalT L' ≤ 16777216) :
    Calls Try.prog 70 #[u, v, .func (.func 71) #[] #[]] w fun e w' => e = .returned (.bool (eqHk L L')) ∧ Below w.heap.size w w' := by
  obtain ⟨a, cap, rfl⟩ := h.form
  obtain ⟨a', cap', rfl⟩ := h'.form
  have hn0 : L.length ≤ 16777216 := by unfold totalT at hl; omega
  by_cases hlen : L.length = L'.length
  · generalize hr : eqHk L L' = r
    have R : Hid (eqHk (L.drop 0) (L'.drop 0) = r) := Lib.hid hr
    clear hr
    rw [← hlen] at h' ⊢
    generalize hn : L.length = n at *
    have H := Lib.hid hn
    have H' := Lib.hid hlen
    clear hn hlen
    go_enter Try.func70, Try.ntmps70
    go_wp2_with fail
    go_loopw [17] (fun i wr => ∃ (k : Nat), k ≤ n ∧ i = .int .i64 k ∧ Hid (eqHk (L.drop k) (L'.drop k) = r) ∧ Below w.heap.size w wr) (fun i _ => n - (intOf i).toNat)
    case atStart => exact ⟨0, Nat.zero_le _, rfl, R, Below.refl _ _⟩
    case round =>
      obtain ⟨k, hk, rfl, HR, hb⟩ := hrel
      by_cases hlt : k < n
      · obtain ⟨b, o, r1, r2, x, rfl, hc, hd, ⟨hr1, hr2⟩, hx⟩ := (h.below hb).at hlt
        obtain ⟨b', o', r3, r4, y, rfl, hc', hd', ⟨hr3, hr4⟩, hy⟩ := (h'.below hb).at hlt
        obtain ⟨l1, p1⟩ := x
        obtain ⟨l2, p2⟩ := y
        obtain ⟨a1, c1, rfl⟩ := hr1.form
        obtain ⟨a2, c2, rfl⟩ := hr2.form
        obtain ⟨a3, c3, rfl⟩ := hr3.form
        obtain ⟨a4, c4, rfl⟩ := hr4.form
        have hll : l1.length ≤ 16777216 := by have := term_le (List.mem_of_getElem? hx.out); simp at this; omega
        have hll' : l2.length ≤ 16777216 := by have := term_le (List.mem_of_getElem? hy.out); simp at this; omega
        have hlp : p1.length ≤ 16777216 := by have := term_le (List.mem_of_getElem? hx.out); simp at this; omega
        have hlp' : p2.length ≤ 16777216 := by have := term_le (List.mem_of_getElem? hy.out); simp at this; omega
        have b1 : (k : Int) < (n : Int) := by omega
        have HR2 : Hid ((if eqTr (l1, p1) (l2, p2) then eqHk (L.drop (k + 1)) (L'.drop (k + 1)) else false) = r) := by
          have := HR.out
          rw [drop_step hx.out, drop_step hy.out, eqHk] at this
          exact Lib.hid this
        have hc2 := cell_alloc hc' (.cells #[.slice a1 l1.length c1, .slice a2 p1.length c2] 74)
        have hd2 := cell_alloc hd' (.cells #[.slice a1 l1.length c1, .slice a2 p1.length c2] 74)
        go_wp2_with fail
        have bb := ((Below.refl wr.heap.size wr).alloc (Nat.le_refl _) (.cells #[.slice a1 l1.length c1, .slice a2 p1.length c2] 74)).alloc (by simp) (.cells #[.slice a3 l2.length c3, .slice a4 p2.length c4] 74)
        refine (equalHeckeOne (hr1.below bb) (hr2.below bb) (hr3.below bb) (hr4.below bb) hll hll' hlp hlp').mono ?_
        cases hq : eqTr (l1, p1) (l2, p2)
        · rintro e w2 ⟨rfl, b2⟩
          have b3 := Keeps.step hb (Keeps.step bb b2)
          have HR3 : Hid (false = r) := by have := HR2.out; rw [hq] at this; exact Lib.hid (by simpa using this)
          go_wp2_with fail
          go_ret
          exact ⟨ret_bool HR3.out, b3⟩
        · rintro e w2 ⟨rfl, b2⟩
          have b3 := Keeps.step hb (Keeps.step bb b2)
          have HR3 : Hid (eqHk (L.drop (k + 1)) (L'.drop (k + 1)) = r) := by have := HR2.out; rw [hq] at this; exact Lib.hid (by simpa using this)
          go_wp2_with fail
          go_roundw
          case rel => exact ⟨k + 1, by omega, by go_num, HR3, b3⟩
          case measure => simp [intOf]; omega
      · go_wp2_with fail
        go_ret
        refine ⟨ret_bool ?_, hb⟩
        have := HR.out
        rw [List.drop_eq_nil_of_le (by have := H.out; omega), List.drop_eq_nil_of_le (by have := H.out; have := H'.out; omega)] at this
        exact this
  · have hne : ((L.length : Int) != (L'.length : Int)) = true := by simp; omega
    have E := Lib.hid (eqHk_len hlen)
    generalize eqHk L L' = r at *
    generalize L.length = n at *
    generalize L'.length = n' at *
    go_enter Try.func70, Try.ntmps70
    go_wp2_with fail
    go_ret
    exact ⟨ret_bool E.out.symm, Below.refl _ _⟩

set_option maxHeartbeats 400000 in
theorem equalHeckeImpl {S S' : Nat → Prop} {u v : Value} {L L' : List Trm} {w : World} (h : RT S w u L) (h' : RT S' w v L') (hl : totalT L ≤ 16777216) (hl' : totalT L' ≤ 16777216) :
    Calls Try.prog 38 #[u, v] w fun e w' => e = .returned (.bool (eqHk L L')) ∧ Below w.heap.size w w' := by
  go_enter Try.func38, Try.ntmps38
  go_wp2_with fail
  refine (equalFuncHecke h h' hl hl').mono ?_
  rintro e w' ⟨rfl, hb⟩
  go_wp2_with fail
  go_ret
  exact ⟨rfl, hb⟩
end Go.Proofs.Ytdgphhbgedfkfaa
