/- Small weights; greatest common divisors of natural numbers: by both. Condition: sizes up to 2^24, numbers below 2^62. -/
import Derived.Test.YtkgjecabigdnoaaJGRtS
import Derived.Test.YtkgjecabigdnoaaJScale
namespace Go.Proofs.Ytkgjecabigdnoaa
open Go.RowKit
set_option maxRecDepth 20000

def sm4 (v : List Int) : Bool := v.all fun x => decide (0 ≤ x ∧ x ≤ 4)
theorem sm4_step {v : List Int} {k : Nat} {x : Int} (h : v[k]? = some x) : sm4 (v.take (k + 1)) = (sm4 (v.take k) && decide (0 ≤ x ∧ x ≤ 4)) := by rw [take_step h]; simp [sm4]
theorem sm4_no {v : List Int} {k : Nat} {x : Int} (h : v[k]? = some x) (hx : ¬ (0 ≤ x ∧ x ≤ 4)) : sm4 v = false := by
  unfold sm4
  rw [List.all_eq_false]
  exact ⟨x, List.mem_of_getElem? h, by simpa using hx⟩

set_option maxHeartbeats 2000000 in
theorem small25Spec {S S' : Nat → Prop} {u v : Value} {c : List (List Int)} {l : List Int} {w : World} (h : RII S w u c) (h' : RI S' w v l) (hl : total c ≤ 16777216) (hl' : l.length ≤ 16777216) :
    Calls Try.prog 57 #[u, v] w fun e w' => e = .returned (.bool (sm4 l && (finB c && decide (l.length = c.length)))) ∧ Below w.heap.size w w' := by
  have hF := Lib.hid (fun (w1 : World) (b1 : Below w.heap.size w w1) => isFiniteSpec (h.below b1) hl)
  have h0' := h'
  obtain ⟨au, cu, rfl⟩ := h.form
  obtain ⟨av, cv, rfl⟩ := h'.form
  have HS := Lib.hid (fun (k : Nat) (x : Int) (hx : l[k]? = some x) => sm4_step hx)
  have HN := Lib.hid (fun (k : Nat) (x : Int) (hx : l[k]? = some x) (h : ¬ (0 ≤ x ∧ x ≤ 4)) => sm4_no hx h)
  have HE : Hid (∀ k, l.length ≤ k → l.take k = l) := Lib.hid (fun k hk => List.take_of_length_le hk)
  have H0 : Hid (sm4 (l.take 0) = true) := Lib.hid rfl
  generalize hlv : l.length = nv at *
  generalize hlc : c.length = nc at *
  clear hlv hlc
  generalize hz : (sm4 l && (finB c && decide (nv = nc))) = z
  have HZ := Lib.hid hz
  clear hz
  go_enter Try.func57, Try.ntmps57
  go_wp2_with fail
  go_loop [5] (fun kk => ∃ k : Nat, k ≤ nv ∧ kk = .int .i64 k ∧ Hid (sm4 (l.take k) = true)) (fun kk => nv - (intOf kk).toNat)
  case atStart => exact ⟨0, Nat.zero_le _, rfl, H0⟩
  case round =>
    obtain ⟨k, hk, rfl, HK⟩ := hrel
    by_cases hlt : k < nv
    · have i1 : (k : Int) < (nv : Int) := by omega
      obtain ⟨b, o, x, rfl, hc, hx⟩ := h0'.at hlt
      have H1 := Lib.hid (HS.out k x hx.out)
      have H2 := Lib.hid (HN.out k x hx.out)
      clear hx
      go_wp2_with fail
      refine (l1In_any _ _ _ _).mono ?_
      rintro e w' ⟨rfl, rfl⟩
      by_cases hxx : 0 ≤ x ∧ x ≤ 4
      · have HX : Hid (inR x 0 4 = true) := Lib.hid (inR_yes hxx)
        have HK2 : Hid (sm4 (l.take (k + 1)) = true) := Lib.hid (by rw [H1.out, HK.out, decide_eq_true hxx]; rfl)
        rw [HX.out]
        go_wp2_with fail
        go_round
        case rel => exact ⟨k + 1, by omega, by go_num, HK2⟩
        case measure => simp [intOf]; omega
      · have HX : Hid (inR x 0 4 = false) := Lib.hid (inR_no hxx)
        have e0 : Hid (z = false) := Lib.hid (by rw [← HZ.out, H2.out hxx]; rfl)
        rw [HX.out]
        go_wp2_with fail
        go_ret
        exact ⟨ret_bool e0.out.symm, Below.refl _ _⟩
    · have i1 : ¬ (k : Int) < (nv : Int) := by omega
      have hs := HK.out
      rw [HE.out k (by omega)] at hs
      have hcall := hF.out w (Below.refl _ _)
      have HR : Hid (z = (finB c && decide (nv = nc))) := Lib.hid (by rw [← HZ.out, hs]; rfl)
      clear hs
      generalize finB c = q at *
      go_wp2_with fail
      refine hcall.mono ?_
      rintro e w2 ⟨rfl, b2⟩
      cases q with
      | false =>
        go_wp2_with fail
        go_ret
        exact ⟨ret_bool (by rw [HR.out]; rfl), b2⟩
      | true =>
        by_cases hn : nv = nc
        · have f1 : ((nv : Int) == (nc : Int)) = true := by simp [hn]
          have e0 : Hid ((true && decide (nv = nc)) = true) := Lib.hid (by rw [decide_eq_true hn]; rfl)
          subst hn
          go_wp2_with fail
          go_ret
          exact ⟨ret_bool (by rw [HR.out, e0.out]), b2⟩
        · have f1 : ((nv : Int) == (nc : Int)) = false := by simp; omega
          have f2 : ¬ (nv : Int) = (nc : Int) := by omega
          have e0 : Hid ((true && decide (nv = nc)) = false) := Lib.hid (by rw [decide_eq_false hn]; rfl)
          go_wp2_with fail
          go_ret
          exact ⟨ret_bool (by rw [HR.out, e0.out]), b2⟩

set_option maxHeartbeats 2000000 in
theorem isSmallImpl {S S' : Nat → Prop} {u v : Value} {c : List (List Int)} {l : List Int} {w : World} (h : RII S w u c) (h' : RI S' w v l) (hl : total c ≤ 16777216) (hl' : l.length ≤ 16777216) :
    Calls Try.prog 62 #[u, v] w fun e w' => e = .returned (.bool (decide (l.length = c.length) && sm4 l)) ∧ ∃ m, w' = w.drewN m := by
  have h0' := h'
  obtain ⟨au, cu, rfl⟩ := h.form
  obtain ⟨av, cv, rfl⟩ := h'.form
  have hc8 : c.length ≤ 16777216 := by unfold total at hl; omega
  have HS := Lib.hid (fun (k : Nat) (x : Int) (hx : l[k]? = some x) => sm4_step hx)
  have HN := Lib.hid (fun (k : Nat) (x : Int) (hx : l[k]? = some x) (h : ¬ (0 ≤ x ∧ x ≤ 4)) => sm4_no hx h)
  have HE : Hid (∀ k, l.length ≤ k → l.take k = l) := Lib.hid (fun k hk => List.take_of_length_le hk)
  have H0 : Hid (sm4 (l.take 0) = true) := Lib.hid rfl
  generalize hlv : l.length = nv at *
  generalize hlc : c.length = nc at *
  clear hlv hlc
  go_enter Try.func62, Try.ntmps62
  by_cases hn : nv = nc
  · have e1 : Hid (decide (nv = nc) = true) := Lib.hid (decide_eq_true hn)
    have f1 : ((nv : Int) != (nc : Int)) = false := by simp [hn]
    subst hn
    go_wp2_with fail
    go_loop [14] (fun kk => ∃ k : Nat, k ≤ nv ∧ kk = .int .i64 k ∧ Hid (sm4 (l.take k) = true)) (fun kk => nv - (intOf kk).toNat)
    case atStart => exact ⟨0, Nat.zero_le _, rfl, H0⟩
    case round =>
      obtain ⟨k, hk, rfl, HK⟩ := hrel
      by_cases hlt : k < nv
      · have i1 : (k : Int) < (nv : Int) := by omega
        obtain ⟨b, o, x, rfl, hc, hx⟩ := h0'.at hlt
        have H1 := Lib.hid (HS.out k x hx.out)
        have H2 := Lib.hid (HN.out k x hx.out)
        clear hx
        by_cases hx0 : x < 0
        · have e0 : Hid ((decide (nv = nv) && sm4 l) = false) := Lib.hid (by rw [H2.out (by omega)]; simp)
          go_wp2_with fail
          go_ret
          exact ⟨ret_bool e0.out.symm, dr0⟩
        · by_cases hx4 : 4 < x
          · have e0 : Hid ((decide (nv = nv) && sm4 l) = false) := Lib.hid (by rw [H2.out (by omega)]; simp)
            go_wp2_with fail
            go_ret
            exact ⟨ret_bool e0.out.symm, dr0⟩
          · have HK2 : Hid (sm4 (l.take (k + 1)) = true) := Lib.hid (by rw [H1.out, HK.out, decide_eq_true (by omega)]; rfl)
            go_wp2_with fail
            go_round
            case rel => exact ⟨k + 1, by omega, by go_num, HK2⟩
            case measure => simp [intOf]; omega
      · have i1 : ¬ (k : Int) < (nv : Int) := by omega
        have hs := HK.out
        rw [HE.out k (by omega)] at hs
        have e0 : Hid ((decide (nv = nv) && sm4 l) = true) := Lib.hid (by rw [hs]; simp)
        clear hs
        go_wp2_with fail
        go_ret
        exact ⟨ret_bool e0.out.symm, dr0⟩
  · have f1 : ((nv : Int) != (nc : Int)) = true := by simp; omega
    have e0 : Hid ((decide (nv = nc) && sm4 l) = false) := Lib.hid (by rw [decide_eq_false hn]; rfl)
    go_wp2_with fail
    go_ret
    exact ⟨ret_bool e0.out.symm, dr0⟩

theorem tmod_nat (a b : Nat) : ((a : Int)).tmod (b : Int) = ((a % b : Nat) : Int) := (Int.ofNat_tmod a b).symm
set_option maxHeartbeats 1000000 in
theorem gcdNatImpl {x y : Nat} {w : World} (hx : x ≤ 4000000000000000000) (hy : y ≤ 4000000000000000000) :
    Calls Try.prog 40 #[.int .i64 x, .int .i64 y] w fun e w' => e = .returned (.int .i64 (Nat.gcd x y : Nat)) ∧ ∃ m, w' = w.drewN m := by
  obtain ⟨g, hg⟩ : ∃ g, g = Nat.gcd x y := ⟨_, rfl⟩
  rw [← hg]
  have HG := Lib.hid hg.symm
  clear hg
  have mixed : Try.prog.follows .mixedOrders = true := by kernel_rfl
  go_enter Try.func40, Try.ntmps40
  go_wp2_with fail
  go_loopw [0, 1] (fun aa bb wr => ∃ a b : Nat, aa = .int .i64 a ∧ bb = .int .i64 b ∧ Hid (Nat.gcd a b = g) ∧ a ≤ 4000000000000000000 ∧ b ≤ 4000000000000000000 ∧ ∃ m, wr = w.drewN m) (fun _ bb _ => (intOf bb).toNat)
  case atStart => exact ⟨x, y, rfl, rfl, HG, hx, hy, 0, rfl⟩
  case round =>
    obtain ⟨a, b, rfl, rfl, HF, ha, hb, m, rfl⟩ := hrel
    by_cases h0 : b = 0
    · subst h0
      have hg := HF.out
      rw [Nat.gcd_zero_right] at hg
      subst hg
      go_wp2_with fail
      go_ret
      exact ⟨rfl, m, rfl⟩
    · have f1 : ((b : Int) != 0) = true := by simp [h0]
      have f2 : ((b : Int) == 0) = false := by simp [h0]
      have f3 : (b : Int) ≠ 0 := by omega
      have HS : Hid (Nat.gcd b (a % b) = g) := Lib.hid (by rw [← HF.out, Nat.gcd_comm b, ← Nat.gcd_rec, Nat.gcd_comm])
      have hlt : a % b < b := Nat.mod_lt _ (by omega)
      have HLT := Lib.hid hlt
      clear hlt
      go_wp2_with fail
      go_big_region_o
      go_wp2_with fail
      go_roundw
      case rel => exact ⟨b, a % b, rfl, by simp, HS, hb, by have := HLT.out; omega, m + 1, rfl⟩
      case measure => have := HLT.out; simp [intOf]; omega

set_option maxHeartbeats 1000000 in
theorem gcdNatSpec {x y : Nat} {w : World} (hx : x ≤ 4000000000000000000) (hy : y ≤ 4000000000000000000) :
    Calls Try.prog 61 #[.int .i64 x, .int .i64 y] w fun e w' => e = .returned (.int .i64 (Nat.gcd x y : Nat)) ∧ ∃ m, w' = w.drewN m := by
  obtain ⟨g, hg⟩ : ∃ g, g = Nat.gcd x y := ⟨_, rfl⟩
  rw [← hg]
  have HG := Lib.hid hg.symm
  clear hg
  have mixed : Try.prog.follows .mixedOrders = true := by kernel_rfl
  go_enter Try.func61, Try.ntmps61
  go_wp2_with fail
  go_loopw [0, 1] (fun aa bb wr => ∃ a b : Nat, aa = .int .i64 a ∧ bb = .int .i64 b ∧ Hid (Nat.gcd a b = g) ∧ a ≤ 4000000000000000000 ∧ b ≤ 4000000000000000000 ∧ ∃ m, wr = w.drewN m) (fun _ bb _ => (intOf bb).toNat)
  case atStart => exact ⟨x, y, rfl, rfl, HG, hx, hy, 0, rfl⟩
  case round =>
    obtain ⟨a, b, rfl, rfl, HF, ha, hb, m, rfl⟩ := hrel
    by_cases h0 : b = 0
    · subst h0
      have hg := HF.out
      rw [Nat.gcd_zero_right] at hg
      subst hg
      go_wp2_with fail
      go_ret
      exact ⟨rfl, m, rfl⟩
    · have f1 : (0 : Int) < (b : Int) := by omega
      have f2 : ((b : Int) == 0) = false := by simp [h0]
      have f3 : (b : Int) ≠ 0 := by omega
      have HS : Hid (Nat.gcd b (a % b) = g) := Lib.hid (by rw [← HF.out, Nat.gcd_comm b, ← Nat.gcd_rec, Nat.gcd_comm])
      have hlt : a % b < b := Nat.mod_lt _ (by omega)
      have HLT := Lib.hid hlt
      clear hlt
      go_wp2_with fail
      go_roundw
      case rel => exact ⟨b, a % b, rfl, by simp, HS, hb, by have := HLT.out; omega, m, rfl⟩
      case measure => have := HLT.out; simp [intOf]; omega
end Go.Proofs.Ytkgjecabigdnoaa
