/- Comparisons of lists of numbers, the reference's. Condition: at most 2^24 numbers. Comparisons of numbers and of words by Go's library and by the program. Condition: at most 2^24 numbers. -/
import Derived.Test.YtipjomdldjbenaaGreatDoorKGBase
/-! Comparisons of lists of numbers, the reference's. Condition: at most 2^24 numbers. -/
namespace Go.Proofs.YtipjomdldjbenaaGreatDoor
open Go.RowKit
set_option maxRecDepth 20000

/-- -1, 0 or 1: by the first number that differs. -/
def cmpL : List Int → List Int → Int
  | x :: xs, y :: ys => if x < y then -1 else if y < x then 1 else cmpL xs ys
  | _, _ => 0

def cmpW (l l' : List Int) : Int := if l.length = l'.length then cmpL l l' else if l.length < l'.length then -1 else 1

theorem cmpL_eq : ∀ {l l' : List Int}, l.length = l'.length → (cmpL l l' = 0 ↔ l = l')
  | [], [], _ => by simp [cmpL]
  | [], _ :: _, h => by simp at h
  | _ :: _, [], h => by simp at h
  | x :: xs, y :: ys, h => by
    have ih := cmpL_eq (l := xs) (l' := ys) (by simpa using h)
    unfold cmpL
    by_cases h1 : x < y
    · simp [h1]; intro h; omega
    · by_cases h2 : y < x
      · simp [h1, h2]; intro h; omega
      · have : x = y := by omega
        subst this
        simp [ih]

theorem cmpW_eq {l l' : List Int} : cmpW l l' = 0 ↔ l = l' := by
  unfold cmpW
  by_cases h : l.length = l'.length
  · rw [if_pos h]; exact cmpL_eq h
  · rw [if_neg h]
    constructor
    · intro h2; split at h2 <;> omega
    · intro h2; subst h2; exact absurd rfl h

def eqL (l l' : List Int) : Bool := decide (l = l')

theorem eqL_cmp (l l' : List Int) : (cmpW l l' == 0) = eqL l l' := by
  rw [Bool.eq_iff_iff]
  simp [eqL, cmpW_eq]

set_option maxHeartbeats 400000 in
theorem compareWordsSpec {S S' : Nat → Prop} {u v : Value} {l l' : List Int} {w : World} (h : RI S w u l) (h' : RI S' w v l') (hl : l.length ≤ 16777216) (_hl' : l'.length ≤ 16777216) :
    Calls Tryz.prog 97 #[u, v] w fun e w' => e = .returned (.int .i64 (cmpW l l')) ∧ ∃ m, w' = w.drewN m := by
  obtain ⟨a, cap, rfl⟩ := h.form
  obtain ⟨a', cap', rfl⟩ := h'.form
  generalize hr : cmpW l l' = r
  have R := Lib.hid hr
  clear hr
  by_cases hlen : l.length = l'.length
  · have R2 : Hid (cmpL l l' = r) := by have := R.out; rw [cmpW, if_pos hlen] at this; exact Lib.hid this
    clear R
    rw [← hlen] at h' ⊢
    generalize hn : l.length = n at *
    have H := Lib.hid hn
    have H' := Lib.hid hlen
    clear hn hlen
    go_enter Tryz.func97, Tryz.ntmps97
    go_wp2_with fail
    go_loopw [5] (fun i wr => ∃ k : Nat, k ≤ n ∧ i = .int .i64 k ∧ (∃ m, wr = w.drewN m) ∧ Hid (cmpL (l.drop k) (l'.drop k) = r)) (fun i _ => n - (intOf i).toNat)
    case atStart => exact ⟨0, Nat.zero_le _, rfl, dr0, R2⟩
    case round =>
      obtain ⟨k, hk, rfl, ⟨m, hw⟩, HR⟩ := hrel
      subst hw
      by_cases hlt : k < n
      · obtain ⟨b, o, x, rfl, hc, hx⟩ := h.at hlt
        obtain ⟨b', o', y, rfl, hc', hy⟩ := h'.at hlt
        have b1 : (k : Int) < (n : Int) := by omega
        have HR2 : Hid ((if x < y then -1 else if y < x then 1 else cmpL (l.drop (k + 1)) (l'.drop (k + 1))) = r) := by
          have := HR.out
          rw [drop_step hx.out, drop_step hy.out, cmpL] at this
          exact Lib.hid this
        by_cases h1 : x < y
        · have h1' : decide (x < y) = true := by simpa using h1
          go_wp2_with fail
          go_quiet (fail)
          go_wp2_with fail
          go_ret
          exact ⟨ret_int (by have := HR2.out; rw [if_pos (by omega)] at this; exact this), (by first | exact dr1 | exact dr2 | exact dr3)⟩
        · have h1' : decide (x < y) = false := by simpa using h1
          go_wp2_with fail
          go_quiet (fail)
          go_wp2_with fail
          by_cases h2 : y < x
          · have h2' : decide (y < x) = true := by simpa using h2
            go_quiet (fail)
            go_wp2_with fail
            go_ret
            exact ⟨ret_int (by have := HR2.out; rw [if_neg (by omega), if_pos (by omega)] at this; exact this), (by first | exact dr1 | exact dr2 | exact dr3)⟩
          · have h2' : decide (y < x) = false := by simpa using h2
            go_quiet (fail)
            go_wp2_with fail
            go_roundw
            case rel => exact ⟨k + 1, by omega, by go_num, (by first | exact dr1 | exact dr2 | exact dr3), by have := HR2.out; rw [if_neg (by omega), if_neg (by omega)] at this; exact Lib.hid this⟩
            case measure => simp [intOf]; omega
      · go_wp2_with fail
        go_ret
        refine ⟨ret_int ?_, m, rfl⟩
        have := HR.out
        rw [List.drop_eq_nil_of_le (by have := H.out; omega)] at this
        rw [← this]
        simp [cmpL]
  · have hne : ((l.length : Int) == (l'.length : Int)) = false := by simp; omega
    have R2 : Hid ((if l.length < l'.length then (-1 : Int) else 1) = r) := by have := R.out; rw [cmpW, if_neg hlen] at this; exact Lib.hid this
    clear R
    generalize l.length = n at *
    generalize l'.length = n' at *
    by_cases h1 : n < n'
    · go_enter Tryz.func97, Tryz.ntmps97
      go_wp2_with fail
      go_ret
      exact ⟨ret_int (by have := R2.out; rw [if_pos (by omega)] at this; exact this), 0, rfl⟩
    · go_enter Tryz.func97, Tryz.ntmps97
      go_wp2_with fail
      go_ret
      exact ⟨ret_int (by have := R2.out; rw [if_neg (by omega)] at this; exact this), 0, rfl⟩

set_option maxHeartbeats 400000 in
theorem equalWordsSpec {S S' : Nat → Prop} {u v : Value} {l l' : List Int} {w : World} (h : RI S w u l) (h' : RI S' w v l') (hl : l.length ≤ 16777216) (hl' : l'.length ≤ 16777216) :
    Calls Tryz.prog 55 #[u, v] w fun e w' => e = .returned (.bool (eqL l l')) ∧ ∃ m, w' = w.drewN m := by
  have E := Lib.hid (eqL_cmp l l')
  go_enter Tryz.func55, Tryz.ntmps55
  go_wp2_with fail
  refine (compareWordsSpec h h' hl hl').mono ?_
  generalize cmpW l l' = r at *
  rintro e w' ⟨rfl, hw⟩
  go_wp2_with fail
  go_ret
  exact ⟨ret_bool E.out, hw⟩

end Go.Proofs.YtipjomdldjbenaaGreatDoor

/-! Comparisons of numbers and of words by Go's library and by the program. Condition: at most 2^24 numbers. -/
namespace Go.Proofs.YtipjomdldjbenaaGreatDoor
open Go.RowKit
set_option maxRecDepth 20000

def cmp3 (x y : Int) : Int := if x < y then -1 else if y < x then 1 else 0
def lexC : List Int → List Int → Int
  | [], [] => 0
  | [], _ :: _ => -1
  | _ :: _, [] => 1
  | x :: xs, y :: ys => if x < y then -1 else if y < x then 1 else lexC xs ys

theorem lexC_cmpL : ∀ {l l' : List Int}, l.length = l'.length → lexC l l' = cmpL l l'
  | [], [], _ => rfl
  | [], _ :: _, h => by simp at h
  | _ :: _, [], h => by simp at h
  | x :: xs, y :: ys, h => by
    unfold lexC cmpL
    rw [lexC_cmpL (by simpa using h)]

theorem cmp3_nat (n m : Nat) : cmp3 n m = if n = m then 0 else if n < m then -1 else 1 := by
  unfold cmp3
  by_cases h : n = m
  · subst h; simp
  · by_cases h2 : n < m
    · rw [if_pos (by omega), if_neg h, if_pos h2]
    · rw [if_neg (by omega), if_pos (by omega), if_neg h, if_neg h2]

theorem isNaN_any (x : Int) (w : World) :
    Calls Tryz.prog 195 #[.int .i64 x] w fun e w' => e = .returned (.bool false) ∧ w' = w := by
  go_enter Tryz.func195, Tryz.ntmps195
  go_wp2
  go_ret
  exact ⟨ret_bool (by simp), rfl⟩

set_option maxHeartbeats 400000 in
theorem cmpCompare (x y : Int) (w : World) :
    Calls Tryz.prog 200 #[.int .i64 x, .int .i64 y] w fun e w' => e = .returned (.int .i64 (cmp3 x y)) ∧ w' = w := by
  have H1 : Hid (x < y → cmp3 x y = -1) := Lib.hid (fun h => by unfold cmp3; rw [if_pos h])
  have H2 : Hid (¬ x < y → y < x → cmp3 x y = 1) := Lib.hid (fun h h2 => by unfold cmp3; rw [if_neg h, if_pos h2])
  have H3 : Hid (¬ x < y → ¬ y < x → cmp3 x y = 0) := Lib.hid (fun h h2 => by unfold cmp3; rw [if_neg h, if_neg h2])
  go_enter Tryz.func200, Tryz.ntmps200
  go_wp2_with fail
  refine (isNaN_any x w).mono ?_
  rintro e w2 ⟨rfl, rfl⟩
  go_wp2_with fail
  refine (isNaN_any y w2).mono ?_
  rintro e w3 ⟨rfl, rfl⟩
  by_cases h1 : x < y
  · have e0 := Lib.hid (H1.out h1)
    go_wp2_with fail
    go_ret
    exact ⟨ret_int e0.out.symm, rfl⟩
  · by_cases h2 : y < x
    · have e0 := Lib.hid (H2.out (by omega) (by omega))
      go_wp2_with fail
      go_ret
      exact ⟨ret_int e0.out.symm, rfl⟩
    · have e0 := Lib.hid (H3.out (by omega) (by omega))
      go_wp2_with fail
      go_ret
      exact ⟨ret_int e0.out.symm, rfl⟩

set_option maxHeartbeats 1000000 in
theorem slicesCompare {S S' : Nat → Prop} {u v : Value} {l l' : List Int} {w : World} (h : RI S w u l) (h' : RI S' w v l') (hl : l.length ≤ 16777216) (_hl' : l'.length ≤ 16777216) :
    Calls Tryz.prog 201 #[u, v] w fun e w' => e = .returned (.int .i64 (lexC l l')) ∧ w = w' := by
  obtain ⟨a, cap, rfl⟩ := h.form
  obtain ⟨a', cap', rfl⟩ := h'.form
  have HR : Hid (lexC (l.drop 0) (l'.drop 0) = lexC l l') := Lib.hid (by simp)
  generalize lexC l l' = res at *
  generalize hn : l.length = n at *
  have HN := Lib.hid hn
  clear hn
  generalize hm : l'.length = m at *
  have HM := Lib.hid hm
  clear hm
  go_enter Tryz.func201, Tryz.ntmps201
  go_wp2_with fail
  go_loop [11] (fun j => ∃ (k : Nat), k ≤ n ∧ j = .int .i64 k ∧ Hid (k ≤ m ∧ lexC (l.drop k) (l'.drop k) = res)) (fun j => n - (intOf j).toNat)
  case atStart => exact ⟨0, Nat.zero_le _, rfl, Lib.hid ⟨Nat.zero_le _, HR.out⟩⟩
  case round =>
    obtain ⟨k, hk, rfl, HK⟩ := hrel
    by_cases hlt : k < n
    · obtain ⟨b, o, x, rfl, hc, hx⟩ := h.at hlt
      by_cases hlt2 : k < m
      · obtain ⟨b', o', y, rfl, hc', hy⟩ := h'.at hlt2
        have HS : Hid ((x < y → res = -1) ∧ (¬ x < y → y < x → res = 1) ∧ (¬ x < y → ¬ y < x → lexC (l.drop (k + 1)) (l'.drop (k + 1)) = res)) := Lib.hid (by
          have := HK.out.2
          rw [drop_step hx.out, drop_step hy.out] at this
          unfold lexC at this
          refine ⟨fun h => ?_, fun h h2 => ?_, fun h h2 => ?_⟩
          · rw [if_pos h] at this; exact this.symm
          · rw [if_neg h, if_pos h2] at this; exact this.symm
          · rw [if_neg h, if_neg h2] at this; exact this)
        go_wp2_with fail
        refine (cmpCompare x y w).mono ?_
        rintro e w2 ⟨rfl, rfl⟩
        have H1 : Hid (x < y → cmp3 x y = -1) := Lib.hid (fun h => by unfold cmp3; rw [if_pos h])
        have H2 : Hid (¬ x < y → y < x → cmp3 x y = 1) := Lib.hid (fun h h2 => by unfold cmp3; rw [if_neg h, if_pos h2])
        have H3 : Hid (¬ x < y → ¬ y < x → cmp3 x y = 0) := Lib.hid (fun h h2 => by unfold cmp3; rw [if_neg h, if_neg h2])
        by_cases h1 : x < y
        · have e0 := Lib.hid (HS.out.1 h1)
          rw [H1.out h1]
          go_wp2_with fail
          go_ret
          exact ⟨ret_int e0.out.symm, rfl⟩
        · by_cases h2 : y < x
          · have e0 := Lib.hid (HS.out.2.1 (by omega) (by omega))
            rw [H2.out (by omega) (by omega)]
            go_wp2_with fail
            go_ret
            exact ⟨ret_int e0.out.symm, rfl⟩
          · have e0 := Lib.hid (HS.out.2.2 (by omega) (by omega))
            rw [H3.out (by omega) (by omega)]
            go_wp2_with fail
            go_round
            case rel => exact ⟨k + 1, by omega, by go_num, Lib.hid ⟨by omega, e0.out⟩⟩
            case measure => simp [intOf]; omega
      · have e0 : Hid (res = 1) := Lib.hid (by
          have := HK.out.2
          have he : l'.drop k = [] := List.drop_of_length_le (by have := HM.out; omega)
          rw [drop_step hx.out, he] at this
          exact this.symm)
        have hge : (m : Int) ≤ (k : Int) := by omega
        go_wp2_with fail
        go_ret
        exact ⟨ret_int e0.out.symm, rfl⟩
    · have hkn : k = n := by omega
      have HK1 := HK.out.1
      have he : l.drop k = [] := List.drop_of_length_le (by have := HN.out; omega)
      by_cases hnm : n < m
      · have e0 : Hid (res = -1) := Lib.hid (by
          have := HK.out.2
          obtain ⟨y, hy⟩ : ∃ y, l'[k]? = some y := ⟨_, List.getElem?_eq_getElem (by have := HM.out; omega)⟩
          rw [he, drop_step hy] at this
          exact this.symm)
        clear he
        go_wp2_with fail
        go_ret
        exact ⟨ret_int e0.out.symm, rfl⟩
      · have e0 : Hid (res = 0) := Lib.hid (by
          have := HK.out.2
          have he2 : l'.drop k = [] := List.drop_of_length_le (by have := HM.out; omega)
          rw [he, he2] at this
          exact this.symm)
        clear he
        go_wp2_with fail
        go_ret
        exact ⟨ret_int e0.out.symm, rfl⟩

set_option maxHeartbeats 1000000 in
theorem cmpOr2 {w : World} {g : Nat} {x y : Int} (h : RI Any w (.slice (some ⟨g, 0, none⟩) 2 2) [x, y]) :
    Calls Tryz.prog 199 #[.slice (some ⟨g, 0, none⟩) 2 2] w fun e w' => e = .returned (.int .i64 (if x = 0 then y else x)) ∧ w = w' := by
  obtain ⟨b, o, x', e, hc, hx⟩ := RI.at h (j := 0) (by omega)
  obtain ⟨b', o', y', e', hc', hy⟩ := RI.at h (j := 1) (by omega)
  simp only [Option.some.injEq, Addr.mk.injEq, and_true] at e e'
  obtain ⟨rfl, rfl⟩ := e
  obtain ⟨rfl, rfl⟩ := e'
  have h1 := hx.out
  have h2 := hy.out
  simp at h1 h2
  subst h1; subst h2
  clear hx hy h
  have HX : Hid (x = 0 → (if x = 0 then y else x) = y) := Lib.hid (fun h => if_pos h)
  have HY : Hid (¬ x = 0 → (if x = 0 then y else x) = x) := Lib.hid (fun h => if_neg h)
  generalize (if x = 0 then y else x) = res at *
  go_enter Tryz.func199, Tryz.ntmps199
  go_wp2_with fail
  go_loop [8] (fun j => ∃ (k : Nat), k ≤ 2 ∧ j = .int .i64 k ∧ Hid (0 < k → x = 0) ∧ Hid (1 < k → y = 0)) (fun j => 2 - (intOf j).toNat)
  case atStart => exact ⟨0, by omega, rfl, Lib.hid (by omega), Lib.hid (by omega)⟩
  case round =>
    obtain ⟨k, hk, rfl, HK, HL⟩ := hrel
    match k, hk, HK, HL with
    | 0, _, _, _ =>
      by_cases h0 : x = 0
      · have H0 := Lib.hid h0
        subst h0
        go_wp2_with fail
        go_round
        case rel => exact ⟨1, by omega, by go_num, Lib.hid (fun _ => by first | exact H0.out | trivial), Lib.hid (by omega)⟩
        case measure => simp [intOf]
      · have e0 : Hid (res = x) := Lib.hid (HY.out h0)
        go_wp2_with fail
        go_ret
        exact ⟨ret_int e0.out.symm, rfl⟩
    | 1, _, HK, _ =>
      have e0 : Hid (res = y) := Lib.hid (HX.out (HK.out (by omega)))
      by_cases h0 : y = 0
      · have H0 := Lib.hid h0
        subst h0
        go_wp2_with fail
        go_round
        case rel => exact ⟨2, by omega, by go_num, Lib.hid (fun _ => HK.out (by omega)), Lib.hid (fun _ => by first | exact H0.out | trivial)⟩
        case measure => simp [intOf]
      · go_wp2_with fail
        go_ret
        exact ⟨ret_int e0.out.symm, rfl⟩
    | 2, _, HK, HL =>
      have e0 : Hid (res = 0) := Lib.hid (by rw [HX.out (HK.out (by omega))]; exact HL.out (by omega))
      go_wp2_with fail
      go_ret
      exact ⟨ret_int e0.out.symm, rfl⟩
    | k + 3, hk, _, _ => omega

theorem cmpW_or (l l' : List Int) : (if cmp3 l.length l'.length = 0 then lexC l l' else cmp3 l.length l'.length) = cmpW l l' := by
  unfold cmpW
  rw [cmp3_nat]
  by_cases h : l.length = l'.length
  · rw [if_pos h, if_pos h]; simp [lexC_cmpL h]
  · rw [if_neg h, if_neg h]
    by_cases h2 : l.length < l'.length
    · rw [if_pos h2]; simp
    · rw [if_neg h2]; simp

end Go.Proofs.YtipjomdldjbenaaGreatDoor
