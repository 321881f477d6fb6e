/- Dominant weights by the dot action, both sides. Condition: sizes up to 2^24. -/
import Derived.Test.YtdboknhjbjibjaaJDomOfS
import Derived.Test.YtdboknhjbjibjaaJGVec
namespace Go.Proofs.Ytdboknhjbjibjaa
open Go.RowKit
set_option maxRecDepth 20000

def sgL (n : Nat) : Int := if n % 2 = 0 then 1 else -1

def wRho (c : List (List Int)) (l : List Int) : List Int := addW l (List.replicate c.length 1)
def ddOk (c : List (List Int)) (l : List Int) : Bool := isW c l && domOk c (wRho c l)
def dd1 (c : List (List Int)) (l : List Int) : List Int := if ddOk c l then (if (0 : Int) ∈ dom1 c (wRho c l) then [] else (dom1 c (wRho c l)).map less1) else []
def dd2 (c : List (List Int)) (l : List Int) : Int := if ddOk c l then (if (0 : Int) ∈ dom1 c (wRho c l) then 0 else sgL (dom2 c (wRho c l)).length) else 0

theorem dd_len {c : List (List Int)} {l : List Int} : (dd1 c l).length ≤ l.length := by
  unfold dd1
  split
  · split
    · simp
    · have := dom1_le c (wRho c l)
      unfold wRho at *
      rw [addW_length] at this
      simp
      omega
  · simp

set_option maxHeartbeats 400000 in
theorem signImpl {S : Nat → Prop} {v : Value} {l : List Int} {w : World} (h : RI S w v l) (hl : l.length ≤ 16777216) :
    Calls Try.prog 32 #[v] w fun e w' => e = .returned (.int .i64 (sgL l.length)) ∧ w = w' := by
  obtain ⟨a, cap, rfl⟩ := h.form
  have H1 : Hid (l.length % 2 = 0 → sgL l.length = 1) := Lib.hid (fun h => by unfold sgL; rw [if_pos h])
  have H2 : Hid (¬ l.length % 2 = 0 → sgL l.length = -1) := Lib.hid (fun h => by unfold sgL; rw [if_neg h])
  generalize sgL l.length = res at *
  generalize l.length = n at *
  by_cases h2 : n % 2 = 0
  · have e0 := Lib.hid (H1.out h2)
    have e1 : ((n : Int) % 2 == 0) = true := by simp; omega
    clear h2
    go_enter Try.func32, Try.ntmps32
    go_wp2_with fail
    go_ret
    exact ⟨ret_int e0.out.symm, rfl⟩
  · have e0 := Lib.hid (H2.out h2)
    have e1 : ((n : Int) % 2 == 0) = false := by simp; omega
    clear h2
    go_enter Try.func32, Try.ntmps32
    go_wp2_with fail
    go_ret
    exact ⟨ret_int e0.out.symm, rfl⟩

set_option maxHeartbeats 400000 in
theorem signSpec {S : Nat → Prop} {v : Value} {l : List Int} {w : World} (h : RI S w v l) (hl : l.length ≤ 16777216) :
    Calls Try.prog 36 #[v] w fun e w' => e = .returned (.int .i64 (sgL l.length)) ∧ w = w' := by
  obtain ⟨a, cap, rfl⟩ := h.form
  have H1 : Hid (l.length % 2 = 0 → sgL l.length = 1) := Lib.hid (fun h => by unfold sgL; rw [if_pos h])
  have H2 : Hid (¬ l.length % 2 = 0 → sgL l.length = -1) := Lib.hid (fun h => by unfold sgL; rw [if_neg h])
  generalize sgL l.length = res at *
  generalize l.length = n at *
  by_cases h2 : n % 2 = 0
  · have e0 := Lib.hid (H1.out h2)
    have e1 : ((n : Int) % 2 == 0) = true := by simp; omega
    clear h2
    go_enter Try.func36, Try.ntmps36
    go_wp2_with fail
    go_ret
    exact ⟨ret_int e0.out.symm, rfl⟩
  · have e0 := Lib.hid (H2.out h2)
    have e1 : ((n : Int) % 2 == 0) = false := by simp; omega
    clear h2
    go_enter Try.func36, Try.ntmps36
    go_wp2_with fail
    go_ret
    exact ⟨ret_int e0.out.symm, rfl⟩

/-- One list, a number, a bool. -/
def One3 (L : List Int) (s : Int) (ok : Bool) (w : World) (e : Ending) (w' : World) : Prop := ∃ r, e = .returned (.tuple #[r, .int .i64 s, .bool ok]) ∧ FI (New w w') w' r L ∧ Below w.heap.size w w'

theorem no_zero {l : List Int} {k n : Nat} (hn : l.length = n) (h : ∀ j x, j < k → l[j]? = some x → x ≠ 0) (hk : k = n) : ¬ (0 : Int) ∈ l := fun hm => by
  obtain ⟨j, hj, e⟩ := List.getElem_of_mem hm
  exact h j 0 (by omega) (by rw [List.getElem?_eq_getElem hj, e]) rfl

set_option maxHeartbeats 2000000 in
theorem dotDominantImpl {S S' : Nat → Prop} {u v : Value} {c : List (List Int)} {l : List Int} {w : World} (h : RII S w u c) (h' : RI S' w v l) (hl : total c ≤ 16777216) (hl' : l.length ≤ 16777216) :
    Calls Try.prog 12 #[u, v] w (One3 (dd1 c l) (dd2 c l) (ddOk c l) w) := by
  have HNO : Hid (ddOk c l = false → dd1 c l = [] ∧ dd2 c l = 0) := Lib.hid (fun h => by unfold dd1 dd2; rw [h]; exact ⟨rfl, rfl⟩)
  have HZ : Hid (ddOk c l = true → (0 : Int) ∈ dom1 c (wRho c l) → dd1 c l = [] ∧ dd2 c l = 0) := Lib.hid (fun h h2 => by unfold dd1 dd2; rw [h, if_pos rfl, if_pos rfl, if_pos h2, if_pos h2]; exact ⟨rfl, rfl⟩)
  have HN : Hid (ddOk c l = true → ¬ (0 : Int) ∈ dom1 c (wRho c l) → dd1 c l = (dom1 c (wRho c l)).map less1 ∧ dd2 c l = sgL (dom2 c (wRho c l)).length) := Lib.hid (fun h h2 => by unfold dd1 dd2; rw [h, if_pos rfl, if_pos rfl, if_neg h2, if_neg h2]; exact ⟨rfl, rfl⟩)
  have HD : Hid (ddOk c l = (isW c l && domOk c (wRho c l))) := Lib.hid rfl
  have HWL : Hid (addW l (List.replicate c.length 1) = wRho c l) := Lib.hid rfl
  have HW2 : Hid ((wRho c l).length ≤ l.length) := Lib.hid (by unfold wRho; rw [addW_length]; omega)
  have H1L := Lib.hid (dom1_le c (wRho c l))
  have H2L := Lib.hid (dom2_le c (wRho c l))
  have hcl : c.length ≤ 16777216 := by unfold total at hl; omega
  generalize dd1 c l = d1 at *
  generalize dd2 c l = d2 at *
  generalize ddOk c l = ok at *
  obtain ⟨a, cap, rfl⟩ := h.form
  generalize hn : c.length = n at *
  have HNN := Lib.hid hn
  clear hn
  go_enter Try.func12, Try.ntmps12
  go_wp2_with fail
  refine (isWeightImpl h h' hl hl').mono ?_
  rintro e w1 ⟨rfl, hw1⟩
  have b1 := below_quiet hw1
  clear hw1
  cases hW : isW c l
  · have e0 : Hid (ok = false) := Lib.hid (by rw [HD.out, hW]; rfl)
    have e1 := Lib.hid (HNO.out e0.out)
    obtain ⟨f1, b2⟩ := fresh_of (w := w1) b1 rfl
    go_wp2_with fail
    go_ret3
    rw [e1.out.1, e1.out.2, e0.out]
    exact ⟨_, rfl, f1, b2⟩
  · have hW2 := Lib.hid hW
    clear hW
    go_wp2_with fail
    refine (onesImpl n (by omega)).mono ?_
    rintro e w2 ⟨r2, rfl, f2, b2⟩
    have b02 := Keeps.step b1 b2
    go_wp2_with fail
    refine (addWeightsImpl (h'.below b02) f2.reads hl' (by simp; omega)).mono ?_
    rintro e w3 ⟨r3, rfl, f3, b3⟩
    rw [HWL.out] at f3
    have b03 := Keeps.step b02 b3
    go_wp2_with fail
    refine (dominantOfImpl (h.below b03) f3.reads hl (by have := HW2.out; omega)).mono ?_
    rintro e w4 ⟨r4, r4', rfl, f4, f4', -, b4⟩
    have b04 := Keeps.step b03 b4
    cases hF : domOk c (wRho c l)
    · have e0 : Hid (ok = false) := Lib.hid (by rw [HD.out, hW2.out, hF]; rfl)
      have e1 := Lib.hid (HNO.out e0.out)
      obtain ⟨f1, b5⟩ := fresh_of (w := w4) b04 rfl
      go_wp2_with fail
      go_ret3
      rw [e1.out.1, e1.out.2, e0.out]
      exact ⟨_, rfl, f1, b5⟩
    · have e0 : Hid (ok = true) := Lib.hid (by rw [HD.out, hW2.out, hF]; rfl)
      have HZ2 := Lib.hid (HZ.out e0.out)
      have HN2 := Lib.hid (HN.out e0.out)
      clear hF
      generalize dom1 c (wRho c l) = x at *
      generalize dom2 c (wRho c l) = y at *
      obtain ⟨a4, c4, rfl⟩ := f4.form
      generalize hm : x.length = m at *
      have HM := Lib.hid hm
      have hm2 : m ≤ 16777216 := by have := H1L.out; have := HW2.out; omega
      clear hm
      go_wp2_with fail
      go_loopw [33] (fun j wr => ∃ (k : Nat), k ≤ m ∧ j = .int .i64 k ∧ Hid (∀ j z, j < k → x[j]? = some z → z ≠ 0) ∧ w4 = wr) (fun j _ => m - (intOf j).toNat)
      case atStart => exact ⟨0, Nat.zero_le _, rfl, Lib.hid (fun j z h => by omega), rfl⟩
      case round =>
        obtain ⟨k, hk, rfl, HK, rfl⟩ := hrel
        by_cases hlt : k < m
        · obtain ⟨b, o, z, e9, hcz, hz⟩ := f4.reads.at hlt
          subst e9
          have i1 : (k : Int) < (m : Int) := by omega
          by_cases hz0 : z = 0
          · have e1 := Lib.hid (HZ2.out (by rw [← hz0]; exact List.mem_of_getElem? hz.out))
            obtain ⟨f1, b5⟩ := fresh_of (w := w4) b04 rfl
            have e2 : (z == 0) = true := by simpa using hz0
            clear hz0
            go_wp2_with fail
            go_ret3
            rw [e1.out.1, e1.out.2, e0.out]
            exact ⟨_, rfl, f1, b5⟩
          · have HK2 : Hid (∀ j z, j < k + 1 → x[j]? = some z → z ≠ 0) := Lib.hid (fun j z' hj hz' => by
              rcases Nat.lt_or_ge j k with h9 | h9
              · exact HK.out j z' h9 hz'
              · have : j = k := by omega
                subst this
                have := hz.out
                rw [hz'] at this
                injection this with this
                rw [this]; exact hz0)
            have e2 : (z == 0) = false := by simpa using hz0
            clear hz0
            go_wp2_with fail
            go_roundw
            case rel => exact ⟨k + 1, by omega, by go_num, HK2, by trivial⟩
            case measure => simp [intOf]; omega
        · have e1 := Lib.hid (HN2.out (no_zero HM.out HK.out (by omega)))
          have i1 : ¬ (k : Int) < (m : Int) := by omega
          go_wp2_with fail
          refine (lessRhoImpl f4.reads (by rw [HM.out]; exact hm2)).mono ?_
          rintro e w5 ⟨r5, rfl, f5, b5⟩
          go_wp2_with fail
          refine (signImpl (f4'.below b5).reads (by have := H2L.out; omega)).mono ?_
          rintro e w6 ⟨rfl, rfl⟩
          go_wp2_with fail
          go_ret3
          rw [e1.out.1, e1.out.2, e0.out]
          exact ⟨_, rfl, f5.mono (fun b hb => ⟨Nat.le_trans b04.size hb.1, hb.2⟩), Keeps.step b04 b5⟩

set_option maxHeartbeats 2000000 in
theorem dotDominantSpec {S S' : Nat → Prop} {u v : Value} {c : List (List Int)} {l : List Int} {w : World} (h : RII S w u c) (h' : RI S' w v l) (hl : total c ≤ 16777216) (hl' : l.length ≤ 16777216) :
    Calls Try.prog 13 #[u, v] w (One3 (dd1 c l) (dd2 c l) (ddOk c l) w) := by
  have HNO : Hid (ddOk c l = false → dd1 c l = [] ∧ dd2 c l = 0) := Lib.hid (fun h => by unfold dd1 dd2; rw [h]; exact ⟨rfl, rfl⟩)
  have HZ : Hid (ddOk c l = true → (0 : Int) ∈ dom1 c (wRho c l) → dd1 c l = [] ∧ dd2 c l = 0) := Lib.hid (fun h h2 => by unfold dd1 dd2; rw [h, if_pos rfl, if_pos rfl, if_pos h2, if_pos h2]; exact ⟨rfl, rfl⟩)
  have HN : Hid (ddOk c l = true → ¬ (0 : Int) ∈ dom1 c (wRho c l) → dd1 c l = (dom1 c (wRho c l)).map less1 ∧ dd2 c l = sgL (dom2 c (wRho c l)).length) := Lib.hid (fun h h2 => by unfold dd1 dd2; rw [h, if_pos rfl, if_pos rfl, if_neg h2, if_neg h2]; exact ⟨rfl, rfl⟩)
  have HD : Hid (ddOk c l = (isW c l && domOk c (wRho c l))) := Lib.hid rfl
  have HDF : Hid (finB c = false → domOk c (wRho c l) = false) := Lib.hid (fun h => by unfold domOk; rw [h, Bool.and_false])
  have HRH : Hid (isW c l = true → rho c = List.replicate c.length 1) := Lib.hid (fun h => rho_of (isC_iff.2 (isW_len h).1))
  have HWL : Hid (isW c l = true → addW l (rho c) = wRho c l) := Lib.hid (fun h => by rw [HRH.out h]; rfl)
  have HXL : Hid (isW c l = true → (dom1 c (wRho c l)).length = c.length ∨ dom1 c (wRho c l) = []) := Lib.hid (fun h => by
    unfold dom1
    split
    · left; unfold dmL wRho; rw [act_length, addW_length, (isW_len h).2.1]; simp
    · right; rfl)
  have HLESS : Hid (∀ x : List Int, isW c l = true → x.length = c.length → addK (-1) x (rho c) = x.map less1) := Lib.hid (fun x h hx => by rw [HRH.out h, ← hx]; exact addK_less x)
  have HLEN : Hid (isW c l = true → (rho c).length = c.length) := Lib.hid (fun h => by rw [HRH.out h]; simp)
  have HOKX : Hid (domOk c (wRho c l) = true → isW c l = true → (dom1 c (wRho c l)).length = c.length) := Lib.hid (fun h1 h2 => by
    unfold dom1; rw [h1, if_pos rfl]; unfold dmL wRho; rw [act_length, addW_length, (isW_len h2).2.1]; simp)
  have HW2 : Hid ((wRho c l).length ≤ l.length) := Lib.hid (by unfold wRho; rw [addW_length]; omega)
  have H2L := Lib.hid (dom2_le c (wRho c l))
  have hcl : c.length ≤ 16777216 := by unfold total at hl; omega
  clear HXL
  generalize dd1 c l = d1 at *
  generalize dd2 c l = d2 at *
  generalize ddOk c l = ok at *
  go_enter Try.func13, Try.ntmps13
  go_wp2_with fail
  refine (isWeightSpec h h' hl hl').mono ?_
  rintro e w1 ⟨rfl, hw1⟩
  have b1 := below_quiet hw1
  clear hw1
  cases hW : isW c l
  · have e0 : Hid (ok = false) := Lib.hid (by rw [HD.out, hW]; rfl)
    have e1 := Lib.hid (HNO.out e0.out)
    obtain ⟨f1, b2⟩ := fresh_of (w := w1) b1 rfl
    go_wp2_with fail
    go_ret3
    rw [e1.out.1, e1.out.2, e0.out]
    exact ⟨_, rfl, f1, b2⟩
  · have hW2 := Lib.hid hW
    clear hW
    go_wp2_with fail
    refine (isFiniteSpec (h.below b1) hl).mono ?_
    rintro e w2 ⟨rfl, b2⟩
    have b02 := Keeps.step b1 b2
    cases hFI : finB c
    · have e0 : Hid (ok = false) := Lib.hid (by rw [HD.out, hW2.out, HDF.out hFI]; rfl)
      have e1 := Lib.hid (HNO.out e0.out)
      obtain ⟨f1, b3⟩ := fresh_of (w := w2) b02 rfl
      go_wp2_with fail
      go_ret3
      rw [e1.out.1, e1.out.2, e0.out]
      exact ⟨_, rfl, f1, b3⟩
    · clear hFI
      go_wp2_with fail
      refine (rhoOfSpec (h.below b02) hl).mono ?_
      rintro e w3 ⟨r3, rfl, f3, b3⟩
      have b03 := Keeps.step b02 b3
      go_wp2_with fail
      refine (addWeightsSpec (h'.below b03) f3.reads hl' (by rw [HLEN.out hW2.out]; exact hcl)).mono ?_
      rintro e w4 ⟨r4, rfl, f4, b4⟩
      rw [HWL.out hW2.out] at f4
      have b04 := Keeps.step b03 b4
      go_wp2_with fail
      refine (dominantOfSpec (h.below b04) f4.reads hl (by have := HW2.out; omega)).mono ?_
      rintro e w5 ⟨r5, r5', rfl, f5, f5', -, b5⟩
      have b05 := Keeps.step b04 b5
      cases hF : domOk c (wRho c l)
      · have e0 : Hid (ok = false) := Lib.hid (by rw [HD.out, hW2.out, hF]; rfl)
        have e1 := Lib.hid (HNO.out e0.out)
        obtain ⟨f1, b6⟩ := fresh_of (w := w5) b05 rfl
        go_wp2_with fail
        go_ret3
        rw [e1.out.1, e1.out.2, e0.out]
        exact ⟨_, rfl, f1, b6⟩
      · have e0 : Hid (ok = true) := Lib.hid (by rw [HD.out, hW2.out, hF]; rfl)
        have HZ2 := Lib.hid (HZ.out e0.out)
        have HN2 := Lib.hid (HN.out e0.out)
        have HM := Lib.hid (HOKX.out hF hW2.out)
        have HLS := Lib.hid (HLESS.out _ hW2.out HM.out)
        clear hF
        generalize dom1 c (wRho c l) = x at *
        generalize dom2 c (wRho c l) = y at *
        obtain ⟨a5, c5, rfl⟩ := f5.form
        have hml : x.length = c.length := HM.out
        rw [hml] at f5 ⊢
        clear hml
        go_wp2_with fail
        generalize hmn : c.length = m at *
        have HMN := Lib.hid hmn
        clear hmn
        go_loopw [10] (fun j wr => ∃ (k : Nat), k ≤ m ∧ j = .int .i64 k ∧ Hid (∀ j z, j < k → x[j]? = some z → z ≠ 0) ∧ w5 = wr) (fun j _ => m - (intOf j).toNat)
        case atStart => exact ⟨0, Nat.zero_le _, rfl, Lib.hid (fun j z h => by omega), rfl⟩
        case round =>
          obtain ⟨k, hk, rfl, HK, rfl⟩ := hrel
          by_cases hlt : k < m
          · obtain ⟨b, o, z, e9, hcz, hz⟩ := f5.reads.at hlt
            subst e9
            have i1 : (k : Int) < (m : Int) := by omega
            by_cases hz0 : z = 0
            · have e1 := Lib.hid (HZ2.out (by rw [← hz0]; exact List.mem_of_getElem? hz.out))
              obtain ⟨f1, b6⟩ := fresh_of (w := w5) b05 rfl
              have e2 : (z == 0) = true := by simpa using hz0
              clear hz0
              go_wp2_with fail
              go_ret3
              rw [e1.out.1, e1.out.2, e0.out]
              exact ⟨_, rfl, f1, b6⟩
            · have HK2 : Hid (∀ j z, j < k + 1 → x[j]? = some z → z ≠ 0) := Lib.hid (fun j z' hj hz' => by
                rcases Nat.lt_or_ge j k with h9 | h9
                · exact HK.out j z' h9 hz'
                · have : j = k := by omega
                  subst this
                  have := hz.out
                  rw [hz'] at this
                  injection this with this
                  rw [this]; exact hz0)
              have e2 : (z == 0) = false := by simpa using hz0
              clear hz0
              go_wp2_with fail
              go_roundw
              case rel => exact ⟨k + 1, by omega, by go_num, HK2, by trivial⟩
              case measure => simp [intOf]; omega
          · have e1 := Lib.hid (HN2.out (no_zero HM.out HK.out (by omega)))
            have i1 : ¬ (k : Int) < (m : Int) := by omega
            have hu := h.below b05
            go_wp2_with fail
            refine (rhoOfSpec hu hl).mono ?_
            rintro e w6 ⟨r6, rfl, f6, b6⟩
            have b06 := Keeps.step b05 b6
            go_wp2_with fail
            refine (add27Spec (-1) ((f5.below b6).reads) f6.reads (by rw [HM.out]; exact hcl) (by rw [HLEN.out hW2.out]; exact hcl) (by rw [HM.out, HLEN.out hW2.out]; exact Nat.le_refl _)).mono ?_
            rintro e w7 ⟨r7, rfl, f7, b7⟩
            rw [HLS.out] at f7
            have b07 := Keeps.step b06 b7
            go_wp2_with fail
            refine (signSpec ((f5'.below b6).below b7).reads (by have := H2L.out; omega)).mono ?_
            rintro e w8 ⟨rfl, rfl⟩
            go_wp2_with fail
            go_ret3
            rw [e1.out.1, e1.out.2, e0.out]
            exact ⟨_, rfl, f7.mono (fun b hb => ⟨Nat.le_trans b06.size hb.1, hb.2⟩), b07⟩
end Go.Proofs.Ytdboknhjbjibjaa
