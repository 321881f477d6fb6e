/- Whether terms are an element of the Hecke algebra, by the program. Condition: sizes up to 2^24. -/
import Derived.Test.YtipjomdldjbenaaGreatJIsHeckeS
namespace Go.Proofs.YtipjomdldjbenaaGreat
open Go.RowKit
set_option maxRecDepth 20000

set_option maxHeartbeats 4000000 in
set_option maxRecDepth 100000 in
theorem isHeckeImpl {S S' : Nat → Prop} {u v : Value} {c : List (List Int)} {L : List Trm} {w : World} (h : RII S w u c) (h' : RT S' w v L) (hl : total c ≤ 16777216) (hl' : totalT L ≤ 16777216) :
    Calls Tryz.prog 53 #[u, v] w fun e w' => e = .returned (.bool (isHk c L)) ∧ Below w.heap.size w w' := by
  obtain ⟨a', cap', rfl⟩ := h'.form
  have HT : Hid (∀ (k : Nat) (x : Trm), L[k]? = some x → x.1.length ≤ 16777216 ∧ x.2.length ≤ 16777216) := Lib.hid (fun k x hx => by have := term_le (List.mem_of_getElem? hx); omega)
  have HF : Hid (hkFrom c none L = false → isHk c L = false) := Lib.hid (fun h => by unfold isHk; rw [h]; simp)
  have HF2 : Hid (isHk c L = (isC c && (decide (L.length ≤ 60) && hkFrom c none L))) := Lib.hid rfl
  have HR0 : Hid (hkFrom c (prevOf L 0) (L.drop 0) = hkFrom c none L) := Lib.hid (by simp [prevOf])
  have HR1 : Hid (hkFrom c (prevOf L L.length) (L.drop L.length) = true) := Lib.hid (by simp [hkFrom])
  generalize isHk c L = res at *
  have hl0 : L.length ≤ 16777216 := by unfold totalT at hl'; omega
  generalize hn : L.length = n at *
  have HN := Lib.hid hn
  clear hn
  go_enter Tryz.func53, Tryz.ntmps53
  go_wp2_with fail
  refine (isCartanImpl h hl).mono ?_
  rintro e w1 ⟨rfl, hw1⟩
  have b1 := below_quiet hw1
  clear hw1
  cases hC : isC c
  · have e0 : Hid (res = false) := Lib.hid (by rw [HF2.out, hC]; rfl)
    go_wp2_with fail
    go_ret
    exact ⟨ret_bool e0.out.symm, b1⟩
  · have HC := Lib.hid hC
    clear hC
    by_cases h60 : n ≤ 60
    · have HR : Hid (res = hkFrom c none L) := Lib.hid (by rw [HF2.out, HC.out]; simp [h60])
      have i60 : ¬ (60 : Int) < (n : Int) := by omega
      have h1 := h.below b1
      have h1' := h'.below b1
      go_wp2_with fail
      go_loopw [17] (fun j wr => ∃ (k : Nat), k ≤ n ∧ j = .int .i64 k ∧ Hid (hkFrom c (prevOf L k) (L.drop k) = hkFrom c none L) ∧ Below w1.heap.size w1 wr) (fun j _ => n - (intOf j).toNat)
      case atStart => exact ⟨0, Nat.zero_le _, rfl, HR0, Below.refl _ _⟩
      case round =>
        obtain ⟨k, hk, rfl, HK, hb⟩ := hrel
        by_cases hlt : k < n
        · have hT := h1'.below hb
          obtain ⟨b, o, r, r', x, rfl, hc, hc', hx2, hx⟩ := hT.at hlt
          obtain ⟨hr, hr'⟩ := hx2
          have HS := Lib.hid (hk_step (c := c) hx.out)
          obtain ⟨s1, s2⟩ := HT.out k x hx.out
          obtain ⟨ar, cr, rfl⟩ := hr.form
          obtain ⟨ar', cr', rfl⟩ := hr'.form
          generalize hm : x.2.length = m at *
          have HM := Lib.hid hm
          clear hm
          have i1 : (k : Int) < (n : Int) := by omega
          obtain ⟨w2, hw2⟩ : ∃ w2, w2 = wr.alloc (.cells #[.slice ar x.1.length cr, .slice ar' m cr'] 46) := ⟨_, rfl⟩
          have b2 : Below wr.heap.size wr w2 := by rw [hw2]; exact (Below.refl _ _).alloc (Nat.le_refl _) _
          have B2 := Keeps.step hb b2
          have k0 : w2.cell? ⟨wr.heap.size, 0, none⟩ = some (.slice ar x.1.length cr) := by rw [hw2]; go_simp
          have k1 : w2.cell? ⟨wr.heap.size, 1, none⟩ = some (.slice ar' m cr') := by rw [hw2]; go_simp
          have g0 := fun y : GW w2 => y.cell k0
          have g1 := fun y : GW w2 => y.cell k1
          have hu := h1.below B2
          have hT2 := hT.below b2
          have hr := hr.below b2
          have hr' := hr'.below b2
          have HW2 := Lib.hid hw2
          clear k0 k1
          clear hw2
          cases hE : isE c x.1
          · have HE := Lib.hid hE
            clear hE
            have e0 : Hid (res = false) := Lib.hid (HF.out (by rw [← HK.out, HS.out, HE.out]; rfl))
            go_wp2_with fail
            rw [← HW2.out]
            refine region_grow (by kernel_rfl) (by kernel_rfl) ?_
            repeat (go_big_quiet_step ((first | (rename_i y; go_at_call 87; exact Calls.grow_of (v := .bool (isE c x.1)) (v' := .bool false) y (isElementImpl (hu.below y.le) (hr.below y.le) hl s1) (by rw [HE.out])))))
            refine wpQuiet_nil ?_
            intro w8 hb8
            go_wp2_with fail
            go_ret
            exact ⟨ret_bool e0.out.symm, Keeps.step b1 (Keeps.step B2 hb8)⟩
          · have HE := Lib.hid hE
            clear hE
            cases hP : isP x.2
            · have HP := Lib.hid hP
              clear hP
              have e0 : Hid (res = false) := Lib.hid (HF.out (by rw [← HK.out, HS.out, HE.out, HP.out]; rfl))
              go_wp2_with fail
              rw [← HW2.out]
              refine region_grow (by kernel_rfl) (by kernel_rfl) ?_
              repeat (go_big_quiet_step ((first | (rename_i y; go_at_call 87; exact Calls.grow_of (v := .bool (isE c x.1)) (v' := .bool true) y (isElementImpl (hu.below y.le) (hr.below y.le) hl s1) (by rw [HE.out])) | (rename_i y; go_at_call 88; exact Calls.grow_of (v := .bool (isP x.2)) (v' := .bool false) y (Calls.quietly (isPolyImpl (hr'.below y.le) (by rw [HM.out]; exact s2))) (by rw [HP.out])))))
              refine wpQuiet_nil ?_
              intro w8 hb8
              go_wp2_with fail
              go_ret
              exact ⟨ret_bool e0.out.symm, Keeps.step b1 (Keeps.step B2 hb8)⟩
            · have HP := Lib.hid hP
              clear hP
              by_cases hz : m = 0
              · have e0 : Hid (res = false) := Lib.hid (HF.out (by rw [← HK.out, HS.out, HE.out, HP.out, ne_empty, HM.out, hz]; rfl))
                have i4 : ((m : Int) == 0) = true := by simp; omega
                clear hz
                go_wp2_with fail
                rw [← HW2.out]
                refine region_grow (by kernel_rfl) (by kernel_rfl) ?_
                repeat (go_big_quiet_step ((first | (rename_i y; go_at_call 87; exact Calls.grow_of (v := .bool (isE c x.1)) (v' := .bool true) y (isElementImpl (hu.below y.le) (hr.below y.le) hl s1) (by rw [HE.out])) | (rename_i y; go_at_call 88; exact Calls.grow_of (v := .bool (isP x.2)) (v' := .bool true) y (Calls.quietly (isPolyImpl (hr'.below y.le) (by rw [HM.out]; exact s2))) (by rw [HP.out])))))
                refine wpQuiet_nil ?_
                intro w8 hb8
                go_wp2_with fail
                go_ret
                exact ⟨ret_bool e0.out.symm, Keeps.step b1 (Keeps.step B2 hb8)⟩
              · have HZ : Hid ((!x.2.isEmpty) = true) := Lib.hid (by rw [ne_empty, HM.out]; simp; omega)
                have i4 : ((m : Int) == 0) = false := by simp; omega
                clear hz
                rcases k with _ | k
                · have e1 : Hid (hkFrom c (prevOf L 1) (L.drop 1) = hkFrom c none L) := Lib.hid (by rw [← HK.out, HS.out, HE.out, HP.out, HZ.out]; rfl)
                  rw [show (((0 : Nat) : Int)) = 0 from rfl]
                  rw [Nat.zero_mul, Nat.add_zero] at hc hc'
                  have i5 : decide ((0 : Int) < 0) = false := by decide
                  go_wp2_with fail
                  rw [← HW2.out]
                  refine region_grow (by kernel_rfl) (by kernel_rfl) ?_
                  repeat (go_big_quiet_step ((first | (rename_i y; go_at_call 87; exact Calls.grow_of (v := .bool (isE c x.1)) (v' := .bool true) y (isElementImpl (hu.below y.le) (hr.below y.le) hl s1) (by rw [HE.out])) | (rename_i y; go_at_call 88; exact Calls.grow_of (v := .bool (isP x.2)) (v' := .bool true) y (Calls.quietly (isPolyImpl (hr'.below y.le) (by rw [HM.out]; exact s2))) (by rw [HP.out])))))
                  refine wpQuiet_nil ?_
                  intro w8 hb8
                  go_wp2_with fail
                  go_roundw
                  case rel => exact ⟨1, by omega, by go_num, e1, Keeps.step B2 hb8⟩
                  case measure => simp [intOf]; omega
                · obtain ⟨b0, o0, r0, r0', x0, e9, hc0, hc0', hx02, hx0⟩ := hT2.at (j := k) (by omega)
                  simp only [Option.some.injEq, Addr.mk.injEq, and_true] at e9
                  obtain ⟨rfl, rfl⟩ := e9
                  have hq := hx02.1
                  have s3 := (HT.out k x0 hx0.out).1
                  have g2 := fun y : GW w2 => y.cell hc0
                  have HPV : Hid (prevOf L (k + 1) = some x0.1) := Lib.hid (by simp [prevOf, hx0.out])
                  obtain ⟨aq, cq, rfl⟩ := hq.form
                  have i5 : decide ((0 : Int) < (k : Int) + 1) = true := decide_eq_true (by omega)
                  have i6 : (0 : Int) ≤ (k : Int) := by omega
                  have i7 : (k : Int) < (n : Int) := by omega
                  by_cases hcm : cmpW x0.1 x.1 < 0
                  · have e1 : Hid (hkFrom c (prevOf L (k + 1 + 1)) (L.drop (k + 1 + 1)) = hkFrom c none L) := Lib.hid (by rw [← HK.out, HS.out, HE.out, HP.out, HZ.out, HPV.out]; simp [hcm])
                    have i8 : ¬ (0 : Int) ≤ cmpW x0.1 x.1 := by omega
                    have i9 : decide ((0 : Int) ≤ cmpW x0.1 x.1) = false := decide_eq_false i8
                    clear hcm
                    generalize hD : cmpW x0.1 x.1 = D at *
                    have HDD := Lib.hid hD
                    clear hD
                    go_wp2_with fail
                    rw [← HW2.out]
                    refine region_grow (by kernel_rfl) (by kernel_rfl) ?_
                    repeat (go_big_quiet_step ((first | (rename_i y; go_at_call 87; exact Calls.grow_of (v := .bool (isE c x.1)) (v' := .bool true) y (isElementImpl (hu.below y.le) (hr.below y.le) hl s1) (by rw [HE.out])) | (rename_i y; go_at_call 88; exact Calls.grow_of (v := .bool (isP x.2)) (v' := .bool true) y (Calls.quietly (isPolyImpl (hr'.below y.le) (by rw [HM.out]; exact s2))) (by rw [HP.out])) | (rename_i y; go_at_call 51; exact Calls.grow_of (v := .int .i64 (cmpW x0.1 x.1)) (v' := .int .i64 D) y (compareWordsImpl (hq.below y.le) (hr.below y.le) s3 s1) (by rw [HDD.out])))))
                    refine wpQuiet_nil ?_
                    intro w8 hb8
                    go_wp2_with fail
                    go_roundw
                    case rel => exact ⟨k + 1 + 1, by omega, by go_num, e1, Keeps.step B2 hb8⟩
                    case measure => simp [intOf]; omega
                  · have e0 : Hid (res = false) := Lib.hid (HF.out (by rw [← HK.out, HS.out, HE.out, HP.out, HZ.out, HPV.out]; simp [hcm]))
                    have i8 : (0 : Int) ≤ cmpW x0.1 x.1 := by omega
                    have i9 : decide ((0 : Int) ≤ cmpW x0.1 x.1) = true := decide_eq_true i8
                    clear hcm
                    generalize hD : cmpW x0.1 x.1 = D at *
                    have HDD := Lib.hid hD
                    clear hD
                    go_wp2_with fail
                    rw [← HW2.out]
                    refine region_grow (by kernel_rfl) (by kernel_rfl) ?_
                    repeat (go_big_quiet_step ((first | (rename_i y; go_at_call 87; exact Calls.grow_of (v := .bool (isE c x.1)) (v' := .bool true) y (isElementImpl (hu.below y.le) (hr.below y.le) hl s1) (by rw [HE.out])) | (rename_i y; go_at_call 88; exact Calls.grow_of (v := .bool (isP x.2)) (v' := .bool true) y (Calls.quietly (isPolyImpl (hr'.below y.le) (by rw [HM.out]; exact s2))) (by rw [HP.out])) | (rename_i y; go_at_call 51; exact Calls.grow_of (v := .int .i64 (cmpW x0.1 x.1)) (v' := .int .i64 D) y (compareWordsImpl (hq.below y.le) (hr.below y.le) s3 s1) (by rw [HDD.out])))))
                    refine wpQuiet_nil ?_
                    intro w8 hb8
                    go_wp2_with fail
                    go_ret
                    exact ⟨ret_bool e0.out.symm, Keeps.step b1 (Keeps.step B2 hb8)⟩
        · have hkn : k = n := by omega
          have HK1 : Hid (res = true) := Lib.hid (by rw [HR.out, ← HK.out, hkn, HR1.out])
          have i1 : ¬ (k : Int) < (n : Int) := by omega
          clear hkn
          go_wp2_with fail
          go_ret
          exact ⟨ret_bool HK1.out.symm, Keeps.step b1 hb⟩
    · have e0 : Hid (res = false) := Lib.hid (by rw [HF2.out]; simp [h60])
      have i60 : (60 : Int) < (n : Int) := by omega
      go_wp2_with fail
      go_ret
      exact ⟨ret_bool e0.out.symm, b1⟩
end Go.Proofs.YtipjomdldjbenaaGreat
