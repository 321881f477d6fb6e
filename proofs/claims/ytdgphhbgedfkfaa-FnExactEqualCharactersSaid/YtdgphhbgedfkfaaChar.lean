/- The sum of all counts of a character, and the count of a weight. Condition: sizes up to 2^24. -/
import Derived.Test.YtdgphhbgedfkfaaLawWtd
import Derived.Test.YtdgphhbgedfkfaaWords
namespace Go.Proofs.Ytdgphhbgedfkfaa
open Go.RowKit

def sizeW : List Wtd → Int → Int
  | [], s => s
  | x :: xs, s => sizeW xs (wrap64 (s + x.2))

set_option maxHeartbeats 400000 in
theorem sizeOfCharacterSpec {S : Nat → Prop} {v : Value} {L : List Wtd} {w : World} (h : RW S w v L) (hl : totalW L ≤ 16777216) :
    Calls Try.prog 22 #[v] w fun e w' => e = .returned (.int .i64 (sizeW L 0)) ∧ w = w' := by
  obtain ⟨a, cap, rfl⟩ := h.form
  have hl : L.length ≤ 16777216 := by unfold totalW at hl; omega
  generalize hr : sizeW L 0 = r
  have R : Hid (sizeW (L.drop 0) 0 = r) := Lib.hid hr
  clear hr
  generalize hn : L.length = n at *
  have H := Lib.hid hn
  clear hn
  go_enter Try.func22, Try.ntmps22
  go_wp2_with fail
  go_loop [3, 4] (fun s i => ∃ (k : Nat) (t : Int), k ≤ n ∧ i = .int .i64 k ∧ s = .int .i64 t ∧ Hid (sizeW (L.drop k) t = r)) (fun _ i => n - (intOf i).toNat)
  case atStart => exact ⟨0, 0, Nat.zero_le _, rfl, rfl, R⟩
  case round =>
    obtain ⟨k, t, hk, rfl, rfl, HR⟩ := hrel
    by_cases hlt : k < n
    · obtain ⟨b, o, r1, r2, x, rfl, hc, hc', ⟨hr1, rfl⟩, hx⟩ := h.at hlt
      obtain ⟨l, c⟩ := x
      go_wp2_with fail
      go_round
      case rel => exact ⟨k + 1, _, by omega, by go_num, rfl, by have := HR.out; rw [drop_step hx.out, sizeW] at this; exact Lib.hid this⟩
      case measure => simp [intOf]; omega
    · go_wp2_with fail
      go_ret
      refine ⟨ret_int ?_, rfl⟩
      have := HR.out
      rw [List.drop_eq_nil_of_le (by have := H.out; omega)] at this
      exact this

set_option maxHeartbeats 400000 in
theorem sizeOfCharacterImpl {S : Nat → Prop} {v : Value} {L : List Wtd} {w : World} (h : RW S w v L) (hl : totalW L ≤ 16777216) :
    Calls Try.prog 24 #[v] w fun e w' => e = .returned (.int .i64 (sizeW L 0)) ∧ Below w.heap.size w w' := by
  obtain ⟨a, cap, rfl⟩ := h.form
  have hl : L.length ≤ 16777216 := by unfold totalW at hl; omega
  generalize hr : sizeW L 0 = r
  have R : Hid (sizeW (L.drop 0) 0 = r) := Lib.hid hr
  clear hr
  generalize hn : L.length = n at *
  have H := Lib.hid hn
  clear hn
  go_enter Try.func24, Try.ntmps24
  go_wp2_with fail
  go_loopw [3, 8] (fun s i wr => ∃ (k : Nat) (t : Int), k ≤ n ∧ i = .int .i64 k ∧ s = .int .i64 t ∧ Hid (sizeW (L.drop k) t = r) ∧ Below w.heap.size w wr) (fun _ i _ => n - (intOf i).toNat)
  case atStart => exact ⟨0, 0, Nat.zero_le _, rfl, rfl, R, Below.refl _ _⟩
  case round =>
    obtain ⟨k, t, hk, rfl, rfl, HR, hb⟩ := hrel
    by_cases hlt : k < n
    · obtain ⟨b, o, r1, r2, x, rfl, hc, hc', ⟨hr1, rfl⟩, hx⟩ := (h.below hb).at hlt
      obtain ⟨l, c⟩ := x
      obtain ⟨a1, c1, rfl⟩ := hr1.form
      go_wp2_with fail
      go_roundw
      case rel => exact ⟨k + 1, _, by omega, by go_num, rfl, by have := HR.out; rw [drop_step hx.out, sizeW] at this; exact Lib.hid this, hb.alloc hb.size _⟩
      case measure => simp [intOf]; omega
    · go_wp2_with fail
      go_ret
      refine ⟨ret_int ?_, hb⟩
      have := HR.out
      rw [List.drop_eq_nil_of_le (by have := H.out; omega)] at this
      exact this

def countW (l : List Int) : List Wtd → Int
  | [] => 0
  | x :: xs => if eqL x.1 l then x.2 else countW l xs

set_option maxHeartbeats 400000 in
theorem countInSpec {S S' : Nat → Prop} {v u : Value} {L : List Wtd} {l : List Int} {w : World} (h : RW S w v L) (h' : RI S' w u l) (hl : totalW L ≤ 16777216) (hl' : l.length ≤ 16777216) :
    Calls Try.prog 31 #[v, u] w fun e w' => e = .returned (.int .i64 (countW l L)) ∧ ∃ m, w' = w.drewN m := by
  obtain ⟨a, cap, rfl⟩ := h.form
  have hn0 : L.length ≤ 16777216 := by unfold totalW at hl; omega
  generalize hr : countW l L = r
  have R : Hid (countW l (L.drop 0) = r) := Lib.hid hr
  clear hr
  generalize hn : L.length = n at *
  have H := Lib.hid hn
  clear hn
  go_enter Try.func31, Try.ntmps31
  go_wp2_with fail
  go_loopw [5] (fun i wr => ∃ (k : Nat), k ≤ n ∧ i = .int .i64 k ∧ (∃ m, wr = w.drewN m) ∧ Hid (countW l (L.drop k) = r)) (fun i _ => n - (intOf i).toNat)
  case atStart => exact ⟨0, Nat.zero_le _, rfl, dr0, R⟩
  case round =>
    obtain ⟨k, hk, rfl, ⟨m, hw⟩, HR⟩ := hrel
    subst hw
    by_cases hlt : k < n
    · obtain ⟨b, o, r1, r2, x, rfl, hc, hc', ⟨hr1, rfl⟩, hx⟩ := h.at hlt
      obtain ⟨l1, c⟩ := x
      have hll : l1.length ≤ 16777216 := by have := wtd_le (List.mem_of_getElem? hx.out); simp at this; omega
      have HR2 : Hid ((if eqL l1 l then c else countW l (L.drop (k + 1))) = r) := by
        have := HR.out
        rw [drop_step hx.out, countW] at this
        exact Lib.hid this
      go_wp2_with fail
      refine (equalWordsSpec (hr1.drewN m) (h'.drewN m) hll hl').mono ?_
      rintro e w' ⟨rfl, m2, rfl⟩
      cases hq : eqL l1 l
      · go_wp2_with fail
        go_roundw
        case rel => exact ⟨k + 1, by omega, by go_num, (by first | exact dr1 | exact dr2 | exact dr3), by have := HR2.out; rw [hq] at this; exact Lib.hid (by simpa using this)⟩
        case measure => simp [intOf]; omega
      · go_wp2_with fail
        go_ret
        exact ⟨ret_int (by have := HR2.out; rw [hq] at this; simpa using this), (by first | exact dr1 | exact dr2 | exact dr3)⟩
    · go_wp2_with fail
      go_ret
      refine ⟨ret_int ?_, m, rfl⟩
      have := HR.out
      rw [List.drop_eq_nil_of_le (by have := H.out; omega)] at this
      exact this

set_option maxHeartbeats 400000 in
theorem countInImpl {S S' : Nat → Prop} {v u : Value} {L : List Wtd} {l : List Int} {w : World} (h : RW S w v L) (h' : RI S' w u l) (hl : totalW L ≤ 16777216) (hl' : l.length ≤ 16777216) :
    Calls Try.prog 32 #[v, u] w fun e w' => e = .returned (.int .i64 (countW l L)) ∧ Below w.heap.size w w' := by
  obtain ⟨a, cap, rfl⟩ := h.form
  have hn0 : L.length ≤ 16777216 := by unfold totalW at hl; omega
  generalize hr : countW l L = r
  have R : Hid (countW l (L.drop 0) = r) := Lib.hid hr
  clear hr
  generalize hn : L.length = n at *
  have H := Lib.hid hn
  clear hn
  go_enter Try.func32, Try.ntmps32
  go_wp2_with fail
  go_loopw [9] (fun i wr => ∃ (k : Nat), k ≤ n ∧ i = .int .i64 k ∧ Hid (countW l (L.drop k) = r) ∧ Below w.heap.size w wr) (fun i _ => n - (intOf i).toNat)
  case atStart => exact ⟨0, Nat.zero_le _, rfl, R, Below.refl _ _⟩
  case round =>
    obtain ⟨k, hk, rfl, HR, hb⟩ := hrel
    by_cases hlt : k < n
    · obtain ⟨b, o, r1, r2, x, rfl, hc, hc', ⟨hr1, rfl⟩, hx⟩ := (h.below hb).at hlt
      obtain ⟨l1, c⟩ := x
      obtain ⟨a1, c1, rfl⟩ := hr1.form
      have hll : l1.length ≤ 16777216 := by have := wtd_le (List.mem_of_getElem? hx.out); simp at this; omega
      have HR2 : Hid ((if eqL l1 l then c else countW l (L.drop (k + 1))) = r) := by
        have := HR.out
        rw [drop_step hx.out, countW] at this
        exact Lib.hid this
      go_wp2_with fail
      have hb2 := hb.alloc hb.size (.cells #[.slice a1 l1.length c1, .int .i64 c] 65)
      refine (slicesEqual (hr1.below ((Below.refl _ wr).alloc (Nat.le_refl _) _)) (h'.below hb2) hll hl').mono ?_
      rintro e w' ⟨rfl, m2, rfl⟩
      cases hq : eqL l1 l
      · go_wp2_with fail
        go_roundw
        case rel => exact ⟨k + 1, by omega, by go_num, by have := HR2.out; rw [hq] at this; exact Lib.hid (by simpa using this), below_drewN hb2 _⟩
        case measure => simp [intOf]; omega
      · go_wp2_with fail
        go_ret
        exact ⟨ret_int (by have := HR2.out; rw [hq] at this; simpa using this), below_drewN hb2 _⟩
    · go_wp2_with fail
      go_ret
      refine ⟨ret_int ?_, hb⟩
      have := HR.out
      rw [List.drop_eq_nil_of_le (by have := H.out; omega)] at this
      exact this

def eqCh : List Wtd → List Wtd → Bool
  | x :: xs, y :: ys => if eqL x.1 y.1 then (if x.2 = y.2 then eqCh xs ys else false) else false
  | [], [] => true
  | _, _ => false

theorem eqCh_len : ∀ {L L' : List Wtd}, L.length ≠ L'.length → eqCh L L' = false
  | [], [], h => by simp at h
  | [], _ :: _, _ => rfl
  | _ :: _, [], _ => rfl
  | x :: xs, y :: ys, h => by
    unfold eqCh
    rw [eqCh_len (by simpa using h)]
    simp

set_option maxHeartbeats 1000000 in
theorem equalCharactersSpec {S S' : Nat → Prop} {u v : Value} {L L' : List Wtd} {w : World} (h : RW S w u L) (h' : RW S' w v L') (hl : totalW L ≤ 16777216) (hl' : totalW L' ≤ 16777216) :
    Calls Try.prog 33 #[u, v] w fun e w' => e = .returned (.bool (eqCh L L')) ∧ ∃ m, w' = w.drewN m := by
  obtain ⟨a, cap, rfl⟩ := h.form
  obtain ⟨a', cap', rfl⟩ := h'.form
  have hn0 : L.length ≤ 16777216 := by unfold totalW at hl; omega
  by_cases hlen : L.length = L'.length
  · generalize hr : eqCh L L' = r
    have R : Hid (eqCh (L.drop 0) (L'.drop 0) = r) := Lib.hid hr
    clear hr
    rw [← hlen] at h' ⊢
    generalize hn : L.length = n at *
    have H := Lib.hid hn
    have H' := Lib.hid hlen
    clear hn hlen
    go_enter Try.func33, Try.ntmps33
    go_wp2_with fail
    go_loopw [5] (fun i wr => ∃ (k : Nat), k ≤ n ∧ i = .int .i64 k ∧ (∃ m, wr = w.drewN m) ∧ Hid (eqCh (L.drop k) (L'.drop k) = r)) (fun i _ => n - (intOf i).toNat)
    case atStart => exact ⟨0, Nat.zero_le _, rfl, dr0, R⟩
    case round =>
      obtain ⟨k, hk, rfl, ⟨m, hw⟩, HR⟩ := hrel
      have h := h.drewN m
      have h' := h'.drewN m
      rw [← hw] at h h'
      have HW := Lib.hid hw
      clear hw
      by_cases hlt : k < n
      · obtain ⟨b, o, r1, r2, x, rfl, hc, hd, ⟨hr1, rfl⟩, hx⟩ := h.at hlt
        obtain ⟨b', o', r3, r4, y, rfl, hc', hd', ⟨hr3, rfl⟩, hy⟩ := h'.at hlt
        obtain ⟨l1, c⟩ := x
        obtain ⟨l2, c'⟩ := y
        have hll : l1.length ≤ 16777216 := by have := wtd_le (List.mem_of_getElem? hx.out); simp at this; omega
        have hll' : l2.length ≤ 16777216 := by have := wtd_le (List.mem_of_getElem? hy.out); simp at this; omega
        have b1 : (k : Int) < (n : Int) := by omega
        have HR2 : Hid ((if eqL l1 l2 then (if c = c' then eqCh (L.drop (k + 1)) (L'.drop (k + 1)) else false) else false) = r) := by
          have := HR.out
          rw [drop_step hx.out, drop_step hy.out, eqCh] at this
          exact Lib.hid this
        cases hq : eqL l1 l2
        · have HC : ∀ n, Calls Try.prog 64 #[r1, r3] (wr.drewN n) fun e w' => e = .returned (.bool false) ∧ ∃ m, w' = (wr.drewN n).drewN m := by
            intro n
            have := equalWordsSpec (hr1.drewN n) (hr3.drewN n) hll hll'
            rw [hq] at this
            exact this
          have HC := Lib.hid HC
          clear hr1 hr3
          go_wp2_with fail
          go_quiet ((go_at_call 64; exact Calls.quiet_of (HC.out _)))
          go_wp2_with fail
          go_ret
          exact ⟨ret_bool (by have := HR2.out; rw [hq] at this; simpa using this), m + nq, by rw [HW.out]; simp⟩
        · have HC : ∀ n, Calls Try.prog 64 #[r1, r3] (wr.drewN n) fun e w' => e = .returned (.bool true) ∧ ∃ m, w' = (wr.drewN n).drewN m := by
            intro n
            have := equalWordsSpec (hr1.drewN n) (hr3.drewN n) hll hll'
            rw [hq] at this
            exact this
          have HC := Lib.hid HC
          clear hr1 hr3
          by_cases hcc : c = c'
          · subst hcc
            go_wp2_with fail
            go_quiet ((go_at_call 64; exact Calls.quiet_of (HC.out _)))
            go_wp2_with fail
            go_roundw
            case rel => exact ⟨k + 1, by omega, by go_num, ⟨m + nq, by rw [HW.out]; simp⟩, by have := HR2.out; rw [hq] at this; exact Lib.hid (by simpa using this)⟩
            case measure => simp [intOf]; omega
          · have hcc' : (c != c') = true := by simpa using hcc
            have HR3 : Hid (false = r) := by have := HR2.out; rw [hq] at this; exact Lib.hid (by simpa [hcc] using this)
            clear hcc
            go_wp2_with fail
            go_quiet ((go_at_call 64; exact Calls.quiet_of (HC.out _)))
            go_wp2_with fail
            go_ret
            exact ⟨ret_bool HR3.out, m + nq, by rw [HW.out]; simp⟩
      · go_wp2_with fail
        go_ret
        refine ⟨ret_bool ?_, m, HW.out⟩
        have := HR.out
        rw [List.drop_eq_nil_of_le (by have := H.out; omega), List.drop_eq_nil_of_le (by have := H.out; have := H'.out; omega)] at this
        exact this
  · have hne : ((L.length : Int) != (L'.length : Int)) = true := by simp; omega
    have E := Lib.hid (eqCh_len hlen)
    generalize eqCh L L' = r at *
    generalize L.length = n at *
    generalize L'.length = n' at *
    go_enter Try.func33, Try.ntmps33
    go_wp2_with fail
    go_ret
    exact ⟨ret_bool E.out.symm, 0, rfl⟩

set_option maxHeartbeats 400000 in
theorem equalCharactersOne {S S' : Nat → Prop} {r r' : Value} {l l' : List Int} {c c' : Int} {w : World} (h : RI S w r l) (h' : RI S' w r' l') (hl : l.length ≤ 16777216) (hl' : l'.length ≤ 16777216) :
    Calls Try.prog 67 #[.agg #[r, .int .i64 c], .agg #[r', .int .i64 c']] w fun e w' => e = .returned (.bool (if eqL l l' then (if c = c' then true else false) else false)) ∧ Below w.heap.size w w' := by
  obtain ⟨a, cap, rfl⟩ := h.form
  obtain ⟨a', cap', rfl⟩ := h'.form
  go_enter Try.func67, Try.ntmps67
  by_cases hcc : c = c'
  · subst hcc
    go_wp2_with fail
    have bb := ((Below.refl w.heap.size w).alloc (Nat.le_refl _) (.cells #[.slice a l.length cap, .int .i64 c] 65)).alloc (by simp) (.cells #[.slice a' l'.length cap', .int .i64 c] 65)
    refine (slicesEqual (h.below bb) (h'.below bb) hl hl').mono ?_
    rintro e w' ⟨rfl, m, rfl⟩
    go_wp2_with fail
    go_ret
    refine ⟨ret_bool ?_, below_drewN bb m⟩
    cases eqL l l' <;> simp
  · have hcc' : (c == c') = false := by simpa using hcc
    have E : Hid ((if eqL l l' then (if c = c' then true else false) else false) = false) := Lib.hid (by simp [hcc])
    generalize (if eqL l l' then (if c = c' then true else false) else false) = r at *
    clear hcc
    go_wp2_with fail
    go_ret
    exact ⟨ret_bool E.out.symm, ((Below.refl _ w).alloc (Nat.le_refl _) _).alloc (by simp) _⟩

set_option maxHeartbeats 1000000 in
theorem equalFuncCharacters {S S' : Nat → Prop} {u v : Value} {L L' : List Wtd} {w : World} (h : RW S w u L) (h' : RW S' w v L') (hl : totalW L ≤ 16777216) (hl' : totalW L' ≤ 16777216) :
    Calls Try.prog 66 #[u, v, .func (.func 67) #[] #[]] w fun e w' => e = .returned (.bool (eqCh L L')) ∧ Below w.heap.size w w' := by
  obtain ⟨a, cap, rfl⟩ := h.form
  obtain ⟨a', cap', rfl⟩ := h'.form
  have hn0 : L.length ≤ 16777216 := by unfold totalW at hl; omega
  by_cases hlen : L.length = L'.length
  · generalize hr : eqCh L L' = r
    have R : Hid (eqCh (L.drop 0) (L'.drop 0) = r) := Lib.hid hr
    clear hr
    rw [← hlen] at h' ⊢
    generalize hn : L.length = n at *
    have H := Lib.hid hn
    have H' := Lib.hid hlen
    clear hn hlen
    go_enter Try.func66, Try.ntmps66
    go_wp2_with fail
    go_loopw [17] (fun i wr => ∃ (k : Nat), k ≤ n ∧ i = .int .i64 k ∧ Hid (eqCh (L.drop k) (L'.drop k) = r) ∧ Below w.heap.size w wr) (fun i _ => n - (intOf i).toNat)
    case atStart => exact ⟨0, Nat.zero_le _, rfl, R, Below.refl _ _⟩
    case round =>
      obtain ⟨k, hk, rfl, HR, hb⟩ := hrel
      by_cases hlt : k < n
      · obtain ⟨b, o, r1, r2, x, rfl, hc, hd, ⟨hr1, rfl⟩, hx⟩ := (h.below hb).at hlt
        obtain ⟨b', o', r3, r4, y, rfl, hc', hd', ⟨hr3, rfl⟩, hy⟩ := (h'.below hb).at hlt
        obtain ⟨l1, c⟩ := x
        obtain ⟨l2, c'⟩ := y
        obtain ⟨a1, c1, rfl⟩ := hr1.form
        obtain ⟨a2, c2, rfl⟩ := hr3.form
        have hll : l1.length ≤ 16777216 := by have := wtd_le (List.mem_of_getElem? hx.out); simp at this; omega
        have hll' : l2.length ≤ 16777216 := by have := wtd_le (List.mem_of_getElem? hy.out); simp at this; omega
        have b1 : (k : Int) < (n : Int) := by omega
        have HR2 : Hid ((if eqL l1 l2 then (if c = c' then eqCh (L.drop (k + 1)) (L'.drop (k + 1)) else false) else false) = r) := by
          have := HR.out
          rw [drop_step hx.out, drop_step hy.out, eqCh] at this
          exact Lib.hid this
        have hc2 := cell_alloc hc' (.cells #[.slice a1 l1.length c1, .int .i64 c] 65)
        have hd2 := cell_alloc hd' (.cells #[.slice a1 l1.length c1, .int .i64 c] 65)
        go_wp2_with fail
        have bb := ((Below.refl wr.heap.size wr).alloc (Nat.le_refl _) (.cells #[.slice a1 l1.length c1, .int .i64 c] 65)).alloc (by simp) (.cells #[.slice a2 l2.length c2, .int .i64 c'] 65)
        refine (equalCharactersOne (hr1.below bb) (hr3.below bb) hll hll').mono ?_
        have e2 : (if eqL l1 l2 = true then if c = c' then true else false else false) = (if eqL l1 l2 then (if c = c' then true else false) else false) := rfl
        cases hq : (if eqL l1 l2 = true then if c = c' then true else false else false)
        · rintro e w2 ⟨rfl, b2⟩
          have b3 := Keeps.step hb (Keeps.step bb b2)
          have HR3 : Hid (false = r) := by
            have := HR2.out
            refine Lib.hid ?_
            rw [← this]
            cases hq1 : eqL l1 l2
            · simp
            · by_cases hcc : c = c'
              · simp [hq1, hcc] at hq
              · simp [hcc]
          go_wp2_with fail
          go_ret
          exact ⟨ret_bool HR3.out, b3⟩
        · rintro e w2 ⟨rfl, b2⟩
          have b3 := Keeps.step hb (Keeps.step bb b2)
          have HR3 : Hid (eqCh (L.drop (k + 1)) (L'.drop (k + 1)) = r) := by
            have := HR2.out
            refine Lib.hid ?_
            rw [← this]
            cases hq1 : eqL l1 l2
            · simp [hq1] at hq
            · by_cases hcc : c = c'
              · simp [hcc]
              · simp [hcc] at hq
          go_wp2_with fail
          go_roundw
          case rel => exact ⟨k + 1, by omega, by go_num, HR3, b3⟩
          case measure => simp [intOf]; omega
      · go_wp2_with fail
        go_ret
        refine ⟨ret_bool ?_, hb⟩
        have := HR.out
        rw [List.drop_eq_nil_of_le (by have := H.out; omega), List.drop_eq_nil_of_le (by have := H.out; have := H'.out; omega)] at this
        exact this
  · have hne : ((L.length : Int) != (L'.length : Int)) = true := by simp; omega
    have E := Lib.hid (eqCh_len hlen)
    generalize eqCh L L' = r at *
    generalize L.length = n at *
    generalize L'.length = n' at *
    go_enter Try.func66, Try.ntmps66
    go_wp2_with fail
    go_ret
    exact ⟨ret_bool E.out.symm, Below.refl _ _⟩

set_option maxHeartbeats 400000 in
theorem equalCharactersImpl {S S' : Nat → Prop} {u v : Value} {L L' : List Wtd} {w : World} (h : RW S w u L) (h' : RW S' w v L') (hl : totalW L ≤ 16777216) (hl' : totalW L' ≤ 16777216) :
    Calls Try.prog 34 #[u, v] w fun e w' => e = .returned (.bool (eqCh L L')) ∧ Below w.heap.size w w' := by
  go_enter Try.func34, Try.ntmps34
  go_wp2_with fail
  refine (equalFuncCharacters h h' hl hl').mono ?_
  rintro e w' ⟨rfl, hb⟩
  go_wp2_with fail
  go_ret
  exact ⟨rfl, hb⟩
end Go.Proofs.Ytdgphhbgedfkfaa
