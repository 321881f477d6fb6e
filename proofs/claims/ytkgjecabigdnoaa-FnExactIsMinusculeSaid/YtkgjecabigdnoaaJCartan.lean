/- Whether a matrix is a Cartan matrix. Condition: sizes up to 2^24. -/
import Derived.Test.YtkgjecabigdnoaaJLawRows
namespace Go.Proofs.Ytkgjecabigdnoaa
open Go.RowKit
set_option maxRecDepth 20000

def okE (i j : Nat) (x y : Int) : Bool := if i = j then decide (x = 2) else decide (-3 ≤ x) && decide (x ≤ 0) && (decide (x = 0) == decide (y = 0))
/-- The entry in row i at j. -/
def ent (c : List (List Int)) (i j : Nat) : Int := (c[i]?.getD [])[j]?.getD 0
def isC (c : List (List Int)) : Bool := decide (1 ≤ c.length) && decide (c.length ≤ 4) && c.all (fun r => r.length == c.length) &&
  (List.range c.length).all fun i => (List.range c.length).all fun j => okE i j (ent c i j) (ent c j i)

structure CartanP (c : List (List Int)) : Prop where
  pos : 1 ≤ c.length
  le : c.length ≤ 4
  row : ∀ r ∈ c, r.length = c.length
  ok : ∀ i j, i < c.length → j < c.length → okE i j (ent c i j) (ent c j i) = true

theorem isC_iff {c : List (List Int)} : isC c = true ↔ CartanP c := by
  unfold isC
  simp only [Bool.and_eq_true, decide_eq_true_eq, List.all_eq_true, List.mem_range, beq_iff_eq]
  constructor
  · rintro ⟨⟨⟨h1, h2⟩, h3⟩, h4⟩
    exact ⟨h1, h2, h3, fun i j hi hj => h4 i hi j hj⟩
  · rintro ⟨h1, h2, h3, h4⟩
    exact ⟨⟨⟨h1, h2⟩, h3⟩, fun i hi j hj => h4 i j hi hj⟩

theorem isC_no {c : List (List Int)} (h : ¬ CartanP c) : isC c = false := by
  cases e : isC c
  · rfl
  · exact absurd (isC_iff.1 e) h

theorem ent_at {c : List (List Int)} {i j : Nat} {l : List Int} {x : Int} (h : c[i]? = some l) (h' : l[j]? = some x) : ent c i j = x := by simp [ent, h, h']

def inR (x a b : Int) : Bool := decide (a ≤ x) && decide (x ≤ b)

set_option maxHeartbeats 400000 in
theorem l1In_any (x a b : Int) (w : World) :
    Calls Try.prog 94 #[.int .i64 x, .int .i64 a, .int .i64 b] w fun e w' => e = .returned (.bool (inR x a b)) ∧ w = w' := by
  by_cases h1 : a ≤ x
  · by_cases h2 : x ≤ b
    · go_enter Try.func94, Try.ntmps94
      go_wp2_with fail
      go_ret
      exact ⟨ret_bool (by simp [inR, h1, h2]), rfl⟩
    · go_enter Try.func94, Try.ntmps94
      go_wp2_with fail
      go_ret
      exact ⟨ret_bool (by simp [inR, h1]; omega), rfl⟩
  · go_enter Try.func94, Try.ntmps94
    go_wp2_with fail
    go_ret
    exact ⟨ret_bool (by simp [inR]; omega), rfl⟩

theorem okE_diag {i : Nat} {x y : Int} : okE i i x y = decide (x = 2) := by simp [okE]

/-- Where a row's length is another, it is none. -/
theorem no_row {c : List (List Int)} {k : Nat} {l : List Int} (h : c[k]? = some l) (hl : l.length ≠ c.length) : ¬ CartanP c := fun hc => hl (hc.row l (List.mem_of_getElem? h))
theorem no_ent {c : List (List Int)} {i j : Nat} {l l' : List Int} {x y : Int} (h : c[i]? = some l) (h' : l[j]? = some x) (h2 : c[j]? = some l') (h2' : l'[i]? = some y) (hn : okE i j x y = false) : ¬ CartanP c := by
  intro hc
  have hi : i < c.length := by
    rcases Nat.lt_or_ge i c.length with h' | h'
    · exact h'
    · rw [List.getElem?_eq_none h'] at h; cases h
  have hj : j < c.length := by
    rcases Nat.lt_or_ge j c.length with h' | h'
    · exact h'
    · rw [List.getElem?_eq_none h'] at h2; cases h2
  have := hc.ok i j hi hj
  rw [ent_at h h', ent_at h2 h2', hn] at this
  cases this

set_option maxHeartbeats 4000000 in
theorem isCartanImpl {S : Nat → Prop} {v : Value} {c : List (List Int)} {w : World} (h : RII S w v c) (hl : total c ≤ 16777216) :
    Calls Try.prog 75 #[v] w fun e w' => e = .returned (.bool (isC c)) ∧ ∃ m, w' = w.drewN m := by
  obtain ⟨a, cap, rfl⟩ := h.form
  have hn0 : c.length ≤ 16777216 := by unfold total at hl; omega
  have NO : Hid (¬ CartanP c → isC c = false) := Lib.hid isC_no
  have YES : Hid (CartanP c → isC c = true) := Lib.hid isC_iff.2
  generalize isC c = res at *
  generalize hn : c.length = n at *
  have H := Lib.hid hn
  clear hn
  by_cases hn1 : n < 1
  · go_enter Try.func75, Try.ntmps75
    go_wp2_with fail
    go_ret
    exact ⟨ret_bool (NO.out (fun hc => by have := hc.pos; have := H.out; omega)).symm, dr0⟩
  by_cases hn4 : 4 < n
  · go_enter Try.func75, Try.ntmps75
    go_wp2_with fail
    go_ret
    exact ⟨ret_bool (NO.out (fun hc => by have := hc.le; have := H.out; omega)).symm, dr0⟩
  go_enter Try.func75, Try.ntmps75
  go_wp2_with fail
  go_loop [19] (fun i => ∃ k : Nat, k ≤ n ∧ i = .int .i64 k ∧ Hid (∀ (j : Nat) (l : List Int), j < k → c[j]? = some l → l.length = n)) (fun i => n - (intOf i).toNat)
  case atStart => exact ⟨0, Nat.zero_le _, rfl, Lib.hid (fun j l hj => by omega)⟩
  case round =>
    obtain ⟨k, hk, rfl, HR⟩ := hrel
    by_cases hlt : k < n
    · obtain ⟨b, o, r, l, rfl, hc, hr, hx⟩ := h.at hlt
      obtain ⟨a1, c1, rfl⟩ := hr.form
      by_cases hll : l.length = n
      · have hne : ((l.length : Int) != (n : Int)) = false := by simp; omega
        have HL := Lib.hid hll
        clear hll
        go_wp2_with fail
        go_round
        case rel =>
          refine ⟨k + 1, by omega, by go_num, Lib.hid (fun j l' hj hl' => ?_)⟩
          rcases Nat.lt_or_ge j k with hj' | hj'
          · exact HR.out j l' hj' hl'
          · have : j = k := by omega
            subst this
            rw [hx.out] at hl'
            cases hl'
            exact HL.out
        case measure => simp [intOf]; omega
      · have hne : ((l.length : Int) != (n : Int)) = true := by simp; omega
        have HNO := Lib.hid (NO.out (no_row hx.out (by rw [H.out]; exact hll)))
        clear hll
        go_wp2_with fail
        go_ret
        exact ⟨ret_bool HNO.out.symm, dr0⟩
    · have hkn : k = n := by omega
      subst hkn
      have rows : Hid (∀ (j : Nat) (l : List Int), c[j]? = some l → l.length = k) := by
        refine Lib.hid (fun j l hj => HR.out j l ?_ hj)
        have := H.out
        rcases Nat.lt_or_ge j c.length with h' | h'
        · omega
        · rw [List.getElem?_eq_none h'] at hj; cases hj
      clear HR hlt
      go_wp2_with fail
      go_loopw [29] (fun i wr => ∃ k1 : Nat, k1 ≤ k ∧ i = .int .i64 k1 ∧ (∃ m, wr = w.drewN m) ∧ Hid (∀ i j, i < k1 → j < k → okE i j (ent c i j) (ent c j i) = true)) (fun i _ => k - (intOf i).toNat)
      case atStart => exact ⟨0, Nat.zero_le _, rfl, dr0, Lib.hid (fun i j hi => by omega)⟩
      case round =>
        obtain ⟨k1, hk1, rfl, ⟨m, hw⟩, HA⟩ := hrel
        subst hw
        by_cases hlt : k1 < k
        · obtain ⟨b, o, r, l, rfl, hc, hr, hx⟩ := h.at hlt
          obtain ⟨a1, c1, rfl⟩ := hr.form
          have hll := rows.out k1 l hx.out
          rw [hll] at hc hr
          have HL := Lib.hid hll
          clear hll
          go_wp2_with fail
          obtain ⟨wo, hwo⟩ : ∃ wo : World, wo = w.drewN m := ⟨_, rfl⟩
          go_loopw [33] (fun i wr => ∃ k2 : Nat, k2 ≤ k ∧ i = .int .i64 k2 ∧ (∃ m, wr = w.drewN m) ∧ Hid (∀ j, j < k2 → okE k1 j (ent c k1 j) (ent c j k1) = true)) (fun i _ => k - (intOf i).toNat)
          case atStart => exact ⟨0, Nat.zero_le _, rfl, dr1, Lib.hid (fun j hj => by omega)⟩
          case round =>
            obtain ⟨k2, hk2, rfl, ⟨m2, hw2⟩, HB⟩ := hrel
            subst hw2
            clear hwo
            by_cases hlt2 : k2 < k
            · obtain ⟨b2, o2, r2, l2, e2, hc2, hr2, hx2⟩ := h.at hlt2
              simp only [Option.some.injEq, Addr.mk.injEq, and_true] at e2
              obtain ⟨rfl, rfl⟩ := e2
              obtain ⟨a2, c2, rfl⟩ := hr2.form
              have hll2 := rows.out k2 l2 hx2.out
              rw [hll2] at hc2 hr2
              clear hll2
              obtain ⟨b3, o3, x, rfl, hcx, hxx⟩ := hr.at hlt2
              obtain ⟨b4, o4, y, rfl, hcy, hyy⟩ := hr2.at hlt
              have step : Hid (okE k1 k2 x y = true → ∀ j, j < k2 + 1 → okE k1 j (ent c k1 j) (ent c j k1) = true) := by
                refine Lib.hid (fun ho j hj => ?_)
                rcases Nat.lt_or_ge j k2 with hj' | hj'
                · exact HB.out j hj'
                · have : j = k2 := by omega
                  subst this
                  rw [ent_at hx.out hxx.out, ent_at hx2.out hyy.out]
                  exact ho
              have bad : Hid (okE k1 k2 x y = false → res = false) := Lib.hid (fun hf => NO.out (no_ent hx.out hxx.out hx2.out hyy.out hf))
              have i1 : (k1 : Int) < (k : Int) := by omega
              have i2 : (k2 : Int) < (k : Int) := by omega
              clear HB h hr hr2
              by_cases hij : k1 = k2
              · have e1 : ((k1 : Int) == (k2 : Int)) = true := by simp; omega
                have e2 : ((k1 : Int) != (k2 : Int)) = false := by simp; omega
                by_cases h2 : x = 2
                · have f1 : (x != 2) = false := by simp [h2]
                  have ST := Lib.hid (step.out (by subst hij; simp [okE, h2]))
                  clear h2 hij
                  go_wp2_with fail
                  go_roundw
                  case rel => exact ⟨k2 + 1, by omega, by go_num, (by first | exact dr1 | exact dr2 | exact dr3), ST⟩
                  case measure => simp [intOf]; omega
                · have f1 : (x != 2) = true := by simp [h2]
                  have BD := Lib.hid (bad.out (by subst hij; simp [okE, h2]))
                  clear h2 hij
                  go_wp2_with fail
                  go_ret
                  exact ⟨ret_bool BD.out.symm, (by first | exact dr1 | exact dr2 | exact dr3)⟩
              · have e1 : ((k1 : Int) == (k2 : Int)) = false := by simp; omega
                have e2 : ((k1 : Int) != (k2 : Int)) = true := by simp; omega
                by_cases h3 : x < -3
                · have BD := Lib.hid (bad.out (by simp [okE, hij]; omega))
                  clear hij
                  go_wp2_with fail
                  go_ret
                  exact ⟨ret_bool BD.out.symm, (by first | exact dr1 | exact dr2 | exact dr3)⟩
                by_cases h4 : 0 < x
                · have BD := Lib.hid (bad.out (by simp [okE, hij]; omega))
                  clear hij
                  go_wp2_with fail
                  go_ret
                  exact ⟨ret_bool BD.out.symm, (by first | exact dr1 | exact dr2 | exact dr3)⟩
                by_cases hx0 : x = 0
                · have f1 : (x == 0) = true := by simp [hx0]
                  by_cases hy0 : y = 0
                  · have f2 : (y == 0) = true := by simp [hy0]
                    have ST := Lib.hid (step.out (by simp [okE, hij, hx0, hy0]))
                    clear hij hx0 hy0
                    go_wp2_with fail
                    go_roundw
                    case rel => exact ⟨k2 + 1, by omega, by go_num, (by first | exact dr1 | exact dr2 | exact dr3), ST⟩
                    case measure => simp [intOf]; omega
                  · have f2 : (y == 0) = false := by simp [hy0]
                    have BD := Lib.hid (bad.out (by simp [okE, hij, hx0, hy0]))
                    clear hij hx0 hy0
                    go_wp2_with fail
                    go_ret
                    exact ⟨ret_bool BD.out.symm, (by first | exact dr1 | exact dr2 | exact dr3)⟩
                · have f1 : (x == 0) = false := by simp [hx0]
                  by_cases hy0 : y = 0
                  · have f2 : (y == 0) = true := by simp [hy0]
                    have BD := Lib.hid (bad.out (by simp [okE, hij, hx0, hy0]))
                    clear hij hx0 hy0
                    go_wp2_with fail
                    go_ret
                    exact ⟨ret_bool BD.out.symm, (by first | exact dr1 | exact dr2 | exact dr3)⟩
                  · have f2 : (y == 0) = false := by simp [hy0]
                    have ST := Lib.hid (step.out (by simp [okE, hij, hx0, hy0]; omega))
                    clear hij hx0 hy0
                    go_wp2_with fail
                    go_roundw
                    case rel => exact ⟨k2 + 1, by omega, by go_num, (by first | exact dr1 | exact dr2 | exact dr3), ST⟩
                    case measure => simp [intOf]; omega
            · have hk2k : k2 = k := by omega
              subst hk2k
              go_wp2_with fail
              go_roundw
              case rel =>
                refine ⟨k1 + 1, by omega, by go_num, (by first | exact dr1 | exact dr2 | exact dr3), Lib.hid (fun i j hi hj => ?_)⟩
                rcases Nat.lt_or_ge i k1 with hi' | hi'
                · exact HA.out i j hi' hj
                · have : i = k1 := by omega
                  subst this
                  exact HB.out j hj
              case measure => simp [intOf]; omega
        · have hkk : k1 = k := by omega
          subst hkk
          go_wp2_with fail
          go_ret
          refine ⟨ret_bool (YES.out ⟨by rw [H.out]; omega, by rw [H.out]; omega, fun r hr => ?_, fun i j hi hj => ?_⟩).symm, m, rfl⟩
          · obtain ⟨j, hj⟩ := List.getElem?_of_mem hr
            rw [H.out]
            exact rows.out j r hj
          · rw [H.out] at hi hj
            exact HA.out i j hi hj

set_option maxHeartbeats 8000000 in
theorem isCartanSpec {S : Nat → Prop} {v : Value} {c : List (List Int)} {w : World} (h : RII S w v c) (hl : total c ≤ 16777216) :
    Calls Try.prog 72 #[v] w fun e w' => e = .returned (.bool (isC c)) ∧ ∃ m, w' = w.drewN m := by
  obtain ⟨a, cap, rfl⟩ := h.form
  have hn0 : c.length ≤ 16777216 := by unfold total at hl; omega
  have NO : Hid (¬ CartanP c → isC c = false) := Lib.hid isC_no
  have YES : Hid (CartanP c → isC c = true) := Lib.hid isC_iff.2
  generalize isC c = res at *
  generalize hn : c.length = n at *
  have H := Lib.hid hn
  clear hn
  go_enter Try.func72, Try.ntmps72
  go_wp2_with fail
  go_loop [3] (fun i => ∃ k : Nat, k ≤ n ∧ i = .int .i64 k ∧ Hid (∀ (j : Nat) (l : List Int), j < k → c[j]? = some l → l.length = n)) (fun i => n - (intOf i).toNat)
  case atStart => exact ⟨0, Nat.zero_le _, rfl, Lib.hid (fun j l hj => by omega)⟩
  case round =>
    obtain ⟨k, hk, rfl, HR⟩ := hrel
    by_cases hlt : k < n
    · obtain ⟨b, o, r, l, rfl, hc, hr, hx⟩ := h.at hlt
      obtain ⟨a1, c1, rfl⟩ := hr.form
      by_cases hll : l.length = n
      · have hne : ((l.length : Int) != (n : Int)) = false := by simp; omega
        have HL := Lib.hid hll
        clear hll
        go_wp2_with fail
        go_round
        case rel =>
          refine ⟨k + 1, by omega, by go_num, Lib.hid (fun j l' hj hl' => ?_)⟩
          rcases Nat.lt_or_ge j k with hj' | hj'
          · exact HR.out j l' hj' hl'
          · have : j = k := by omega
            subst this
            rw [hx.out] at hl'
            cases hl'
            exact HL.out
        case measure => simp [intOf]; omega
      · have hne : ((l.length : Int) != (n : Int)) = true := by simp; omega
        have HNO := Lib.hid (NO.out (no_row hx.out (by rw [H.out]; exact hll)))
        clear hll
        go_wp2_with fail
        go_ret
        exact ⟨ret_bool HNO.out.symm, dr0⟩
    · have hkn : k = n := by omega
      subst hkn
      have rows : Hid (∀ (j : Nat) (l : List Int), c[j]? = some l → l.length = k) := by
        refine Lib.hid (fun j l hj => HR.out j l ?_ hj)
        have := H.out
        rcases Nat.lt_or_ge j c.length with h' | h'
        · omega
        · rw [List.getElem?_eq_none h'] at hj; cases hj
      clear HR hlt
      go_wp2_with fail
      go_loopw [4] (fun i wr => ∃ k1 : Nat, k1 ≤ k ∧ i = .int .i64 k1 ∧ (∃ m, wr = w.drewN m) ∧ Hid (∀ i j, i < k1 → j < k → okE i j (ent c i j) (ent c j i) = true)) (fun i _ => k - (intOf i).toNat)
      case atStart => exact ⟨0, Nat.zero_le _, rfl, dr0, Lib.hid (fun i j hi => by omega)⟩
      case round =>
        obtain ⟨k1, hk1, rfl, ⟨m, hw⟩, HA⟩ := hrel
        subst hw
        by_cases hlt : k1 < k
        · obtain ⟨b, o, r, l, rfl, hc, hr, hx⟩ := h.at hlt
          obtain ⟨a1, c1, rfl⟩ := hr.form
          have hll := rows.out k1 l hx.out
          rw [hll] at hc hr
          have HL := Lib.hid hll
          clear hll
          go_wp2_with fail
          obtain ⟨wo, hwo⟩ : ∃ wo : World, wo = w.drewN m := ⟨_, rfl⟩
          go_loopw [5] (fun i wr => ∃ k2 : Nat, k2 ≤ k ∧ i = .int .i64 k2 ∧ (∃ m, wr = w.drewN m) ∧ Hid (∀ j, j < k2 → okE k1 j (ent c k1 j) (ent c j k1) = true)) (fun i _ => k - (intOf i).toNat)
          case atStart => exact ⟨0, Nat.zero_le _, rfl, dr1, Lib.hid (fun j hj => by omega)⟩
          case round =>
            obtain ⟨k2, hk2, rfl, ⟨m2, hw2⟩, HB⟩ := hrel
            clear hwo
            by_cases hlt2 : k2 < k
            · obtain ⟨b2, o2, r2, l2, e2, hc2, hr2, hx2⟩ := h.at hlt2
              simp only [Option.some.injEq, Addr.mk.injEq, and_true] at e2
              obtain ⟨rfl, rfl⟩ := e2
              obtain ⟨a2, c2, rfl⟩ := hr2.form
              have hll2 := rows.out k2 l2 hx2.out
              rw [hll2] at hc2 hr2
              clear hll2
              obtain ⟨b3, o3, x, rfl, hcx, hxx⟩ := hr.at hlt2
              obtain ⟨b4, o4, y, rfl, hcy, hyy⟩ := hr2.at hlt
              have hc : wr.cell? ⟨b, o + k1, none⟩ = some (.slice (some ⟨b3, o3, none⟩) k c1) := by rw [hw2]; exact hc
              have hc2 : wr.cell? ⟨b, o + k2, none⟩ = some (.slice (some ⟨b4, o4, none⟩) k c2) := by rw [hw2]; exact hc2
              have hcx : wr.cell? ⟨b3, o3 + k2, none⟩ = some (.int .i64 x) := by rw [hw2]; exact hcx
              have hcy : wr.cell? ⟨b4, o4 + k1, none⟩ = some (.int .i64 y) := by rw [hw2]; exact hcy
              have HW2 := Lib.hid hw2
              clear hw2
              have step : Hid (okE k1 k2 x y = true → ∀ j, j < k2 + 1 → okE k1 j (ent c k1 j) (ent c j k1) = true) := by
                refine Lib.hid (fun ho j hj => ?_)
                rcases Nat.lt_or_ge j k2 with hj' | hj'
                · exact HB.out j hj'
                · have : j = k2 := by omega
                  subst this
                  rw [ent_at hx.out hxx.out, ent_at hx2.out hyy.out]
                  exact ho
              have bad : Hid (okE k1 k2 x y = false → res = false) := Lib.hid (fun hf => NO.out (no_ent hx.out hxx.out hx2.out hyy.out hf))
              have i1 : (k1 : Int) < (k : Int) := by omega
              have i2 : (k2 : Int) < (k : Int) := by omega
              have HQ0 : ∀ n, Calls Try.prog 94 #[.int .i64 x, .int .i64 (-3), .int .i64 0] (wr.drewN n) fun e w' => e = .returned (.bool (inR x (-3) 0)) ∧ ∃ m, w' = (wr.drewN n).drewN m := fun n => (l1In_any x (-3) 0 (wr.drewN n)).mono fun _ _ ⟨h1, h2⟩ => ⟨h1, 0, by rw [← h2]; rfl⟩
              clear HB h hr hr2
              by_cases hij : k1 = k2
              · have e1 : ((k1 : Int) == (k2 : Int)) = true := by simp; omega
                have e2 : ((k1 : Int) != (k2 : Int)) = false := by simp; omega
                clear HQ0
                by_cases h2 : x = 2
                · have f1 : (x != 2) = false := by simp [h2]
                  have ST := Lib.hid (step.out (by subst hij; simp [okE, h2]))
                  clear h2 hij
                  go_wp2_with fail
                  go_quiet (fail)
                  go_wp2_with fail
                  go_roundw
                  case rel => exact ⟨k2 + 1, by omega, by go_num, ⟨m2 + nq, by rw [HW2.out]; simp⟩, ST⟩
                  case measure => simp [intOf]; omega
                · have f1 : (x != 2) = true := by simp [h2]
                  have BD := Lib.hid (bad.out (by subst hij; simp [okE, h2]))
                  clear h2 hij
                  go_wp2_with fail
                  go_quiet (fail)
                  go_wp2_with fail
                  go_ret
                  exact ⟨ret_bool BD.out.symm, m2 + nq, by rw [HW2.out]; simp⟩
              · have e1 : ((k1 : Int) == (k2 : Int)) = false := by simp; omega
                have e2 : ((k1 : Int) != (k2 : Int)) = true := by simp; omega
                by_cases h3 : -3 ≤ x ∧ x ≤ 0
                · have e3 : inR x (-3) 0 = true := by simp [inR, h3]
                  rw [e3] at HQ0
                  have HQ := Lib.hid HQ0
                  clear HQ0 e3
                  by_cases hx0 : x = 0
                  · have f1 : (x == 0) = true := by simp [hx0]
                    by_cases hy0 : y = 0
                    · have f2 : (y == 0) = true := by simp [hy0]
                      have ST := Lib.hid (step.out (by simp [okE, hij, hx0, hy0]))
                      clear hij hx0 hy0 h3
                      go_wp2_with fail
                      go_quiet ((go_at_call 94; exact Calls.quiet_of (HQ.out _)))
                      go_wp2_with fail
                      go_roundw
                      case rel => exact ⟨k2 + 1, by omega, by go_num, ⟨m2 + nq, by rw [HW2.out]; simp⟩, ST⟩
                      case measure => simp [intOf]; omega
                    · have f2 : (y == 0) = false := by simp [hy0]
                      have BD := Lib.hid (bad.out (by simp [okE, hij, hx0, hy0]))
                      clear hij hx0 hy0 h3
                      go_wp2_with fail
                      go_quiet ((go_at_call 94; exact Calls.quiet_of (HQ.out _)))
                      go_wp2_with fail
                      go_ret
                      exact ⟨ret_bool BD.out.symm, m2 + nq, by rw [HW2.out]; simp⟩
                  · have f1 : (x == 0) = false := by simp [hx0]
                    by_cases hy0 : y = 0
                    · have f2 : (y == 0) = true := by simp [hy0]
                      have BD := Lib.hid (bad.out (by simp [okE, hij, hx0, hy0]))
                      clear hij hx0 hy0 h3
                      go_wp2_with fail
                      go_quiet ((go_at_call 94; exact Calls.quiet_of (HQ.out _)))
                      go_wp2_with fail
                      go_ret
                      exact ⟨ret_bool BD.out.symm, m2 + nq, by rw [HW2.out]; simp⟩
                    · have f2 : (y == 0) = false := by simp [hy0]
                      have ST := Lib.hid (step.out (by simp [okE, hij, hx0, hy0, h3]))
                      clear hij hx0 hy0 h3
                      go_wp2_with fail
                      go_quiet ((go_at_call 94; exact Calls.quiet_of (HQ.out _)))
                      go_wp2_with fail
                      go_roundw
                      case rel => exact ⟨k2 + 1, by omega, by go_num, ⟨m2 + nq, by rw [HW2.out]; simp⟩, ST⟩
                      case measure => simp [intOf]; omega
                · have e3 : inR x (-3) 0 = false := by unfold inR; rw [Bool.and_eq_false_iff]; simp; omega
                  rw [e3] at HQ0
                  have HQ := Lib.hid HQ0
                  have BD := Lib.hid (bad.out (by simp [okE, hij]; omega))
                  clear HQ0 e3 hij h3
                  go_wp2_with fail
                  go_quiet ((go_at_call 94; exact Calls.quiet_of (HQ.out _)))
                  go_wp2_with fail
                  go_ret
                  exact ⟨ret_bool BD.out.symm, m2 + nq, by rw [HW2.out]; simp⟩
            · have hk2k : k2 = k := by omega
              subst hk2k
              subst hw2
              go_wp2_with fail
              go_roundw
              case rel =>
                refine ⟨k1 + 1, by omega, by go_num, (by first | exact dr1 | exact dr2 | exact dr3), Lib.hid (fun i j hi hj => ?_)⟩
                rcases Nat.lt_or_ge i k1 with hi' | hi'
                · exact HA.out i j hi' hj
                · have : i = k1 := by omega
                  subst this
                  exact HB.out j hj
              case measure => simp [intOf]; omega
        · have hkk : k1 = k := by omega
          subst hkk
          have fin : Hid (inR k1 1 4 = res) := by
            refine Lib.hid ?_
            by_cases hin : 1 ≤ k1 ∧ k1 ≤ 4
            · rw [YES.out ⟨by rw [H.out]; omega, by rw [H.out]; omega, fun r hr => by
                obtain ⟨j, hj⟩ := List.getElem?_of_mem hr
                rw [H.out]
                exact rows.out j r hj, fun i j hi hj => by
                rw [H.out] at hi hj
                exact HA.out i j hi hj⟩]
              simp [inR]; omega
            · rw [NO.out (fun hc => hin (by have h1 := hc.pos; have h2 := hc.le; have := H.out; omega))]
              unfold inR
              rw [Bool.and_eq_false_iff]
              simp
              omega
          go_wp2_with fail
          refine (l1In_any k1 1 4 _).mono ?_
          rw [fin.out]
          rintro e w' ⟨rfl, rfl⟩
          go_wp2_with fail
          go_ret
          exact ⟨rfl, (by first | exact dr1 | exact dr2 | exact dr3)⟩
end Go.Proofs.Ytkgjecabigdnoaa
