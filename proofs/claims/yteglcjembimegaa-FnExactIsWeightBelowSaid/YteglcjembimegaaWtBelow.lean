/- Whether a weight is below another one: the reference. Condition: sizes up to 2^24. -/
import Derived.Test.YteglcjembimegaaWtBelowI
import Derived.Test.YteglcjembimegaaGrow
namespace Go.Proofs.Yteglcjembimegaa
open Go.RowKit
set_option maxRecDepth 20000

set_option maxHeartbeats 2000000 in
theorem isWeightBelowSpec {S S' S'' : Nat → Prop} {u v z : Value} {c : List (List Int)} {a b : List Int} {w : World} (h : RII S w u c) (h' : RI S' w v a) (h'' : RI S'' w z b) (hl : total c ≤ 16777216) (hl' : a.length ≤ 16777216) (hl'' : b.length ≤ 16777216) :
    Calls Try.prog 14 #[u, v, z] w fun e w' => e = .returned (.bool (wbB c a b)) ∧ Below w.heap.size w w' := by
  have HD : Hid (wbB c a b = (isW c a && (isW c b && (finB c && allW c (dfL b a) c.length)))) := Lib.hid rfl
  have HP : Hid (finB c = true → FinP c) := Lib.hid finB_p
  generalize wbB c a b = res at *
  go_enter Try.func14, Try.ntmps14
  go_wp2_with fail
  refine (isWeightSpec h h' hl hl').mono ?_
  rintro e w1 ⟨rfl, hw1⟩
  have b1 := below_quiet hw1
  clear hw1
  cases hA : isW c a
  · have e0 : Hid (res = false) := Lib.hid (by rw [HD.out, hA]; rfl)
    go_wp2_with fail
    go_ret
    exact ⟨ret_bool e0.out.symm, b1⟩
  · have HA := Lib.hid hA
    clear hA
    go_wp2_with fail
    refine (isWeightSpec (h.below b1) (h''.below b1) hl hl'').mono ?_
    rintro e w2 ⟨rfl, hw2⟩
    have b02 := Keeps.step b1 (below_quiet hw2)
    clear hw2
    cases hB : isW c b
    · have e0 : Hid (res = false) := Lib.hid (by rw [HD.out, HA.out, hB]; rfl)
      go_wp2_with fail
      go_ret
      exact ⟨ret_bool e0.out.symm, b02⟩
    · have HB := Lib.hid hB
      clear hB
      go_wp2_with fail
      refine (isFiniteSpec (h.below b02) hl).mono ?_
      rintro e w3 ⟨rfl, b3⟩
      have b03 := Keeps.step b02 b3
      cases hF : finB c
      · have e0 : Hid (res = false) := Lib.hid (by rw [HD.out, HA.out, HB.out, hF]; rfl)
        go_wp2_with fail
        go_ret
        exact ⟨ret_bool e0.out.symm, b03⟩
      · have e0 : Hid (res = allW c (dfL b a) c.length) := Lib.hid (by rw [HD.out, HA.out, HB.out, hF]; rfl)
        have HF := Lib.hid (HP.out hF)
        clear hF HD
        have hn4 := HF.out.cart.le
        have HDP := Lib.hid (det_pos HF.out)
        have HAL := Lib.hid (isW_len HA.out)
        have HBL := Lib.hid (isW_len HB.out)
        have HDS := Lib.hid (dfL_small HA.out HB.out)
        have HNO : Hid (∀ k, k < c.length → (coord c (dfL b a) k < 0 ∨ (coord c (dfL b a) k).tmod (Fin.det c.length c) ≠ 0) → res = false) := Lib.hid (fun k hk h => by rw [e0.out]; exact allW_no hk h)
        have HYES : Hid ((∀ k, k < c.length → 0 ≤ coord c (dfL b a) k ∧ (coord c (dfL b a) k).tmod (Fin.det c.length c) = 0) → res = true) := Lib.hid (fun h => by rw [e0.out]; exact allW_iff.2 h)
        have HSM : Hid (Fin.Small 2000 c) := Lib.hid (fun r hr x hx => by
          obtain ⟨i, hi, rfl⟩ := List.getElem_of_mem hr
          obtain ⟨j, hj, rfl⟩ := List.getElem_of_mem hx
          have := ent_small HF.out.cart i j
          have e : ent c i j = c[i][j] := by simp [ent, hi, hj]
          rw [e] at this; omega)
        have HSQ : Hid (Fin.Sqr c c.length) := Lib.hid ⟨rfl, HF.out.cart.row⟩
        have HCB : Hid (∀ k, -384000000000000 ≤ coord c (dfL b a) k ∧ coord c (dfL b a) k ≤ 384000000000000) := Lib.hid (fun k => by
          have h1 := Fin.det_abs c.length (colM_small HF.out.cart k HDS.out.2)
          have h2 : ∀ n, n ≤ 4 → Fin.dB 2000 n ≤ 384000000000000 := by
            intro n hn
            match n, hn with
            | 0, _ => decide
            | 1, _ => decide
            | 2, _ => decide
            | 3, _ => decide
            | 4, _ => decide
          have h3 := h2 _ hn4
          have h4 : (coord c (dfL b a) k).natAbs ≤ Fin.dB 2000 c.length := h1
          omega)
        have HDB : Hid (Fin.det c.length c ≤ 384000000000000) := Lib.hid (by
          have h1 := Fin.det_abs c.length HSM.out
          have h2 : ∀ n, n ≤ 4 → Fin.dB 2000 n ≤ 384000000000000 := by
            intro n hn
            match n, hn with
            | 0, _ => decide
            | 1, _ => decide
            | 2, _ => decide
            | 3, _ => decide
            | 4, _ => decide
          have h3 := h2 _ hn4
          omega)
        clear e0
        have hv3 := h'.below b03
        have hz3 := h''.below b03
        obtain ⟨av, cv, rfl⟩ := hv3.form
        obtain ⟨az, cz, rfl⟩ := hz3.form
        rw [HAL.out.2.1] at hv3 ⊢
        rw [HBL.out.2.1] at hz3 ⊢
        obtain ⟨D, hD⟩ : ∃ D : Nat → List Int, ∀ k, D k = List.zipWith (fun y x => y - x) (b.take k) (a.take k) := ⟨_, fun _ => rfl⟩
        have HD0 : Hid (D 0 = []) := Lib.hid (by rw [hD]; simp)
        have HDn : Hid (D c.length = dfL b a) := Lib.hid (by rw [hD, List.take_of_length_le (by rw [HBL.out.2.1]; exact Nat.le_refl _), List.take_of_length_le (by rw [HAL.out.2.1]; exact Nat.le_refl _)]; rfl)
        have HDS2 : Hid (∀ k y x, b[k]? = some y → a[k]? = some x → D (k + 1) = D k ++ [y - x]) := Lib.hid (fun k y x hy hx => by rw [hD, hD]; exact dfL_step hy hx)
        have HDL : Hid (∀ k, (D k).length ≤ k) := Lib.hid (fun k => by rw [hD]; simp; omega)
        clear hD
        have HCL := Lib.hid (coords_len c (dfL b a) c.length)
        have HCA := Lib.hid (coords_at c (dfL b a) c.length)
        clear h' h''
        generalize hn : c.length = n at *
        have HN := Lib.hid hn
        clear hn
        go_wp2_with fail
        obtain ⟨w4, hw4⟩ : ∃ w4, w4 = w3.alloc (.cells #[] 3) := ⟨_, rfl⟩
        obtain ⟨f4, b4⟩ := fresh_of (Below.refl _ w3) hw4
        rw [← hw4]
        clear hw4
        rw [← HD0.out] at f4
        go_loopw [7, 8] (fun qq j wr => ∃ (k : Nat) (q : Value), q = qq ∧ k ≤ n ∧ j = .int .i64 k ∧ FI (New w3 wr) wr q (D k) ∧ Below w3.heap.size w3 wr) (fun _ j _ => n - (intOf j).toNat)
        case atStart => exact ⟨0, _, rfl, Nat.zero_le _, rfl, f4, b4⟩
        case round =>
          obtain ⟨k, q, rfl, hk, rfl, hf, hb⟩ := hrel
          have hdl := HDL.out k
          by_cases hlt : k < n
          · obtain ⟨b1, o1, y, e8, hc0, hy⟩ := hz3.at hlt
            subst e8
            obtain ⟨b2, o2, x, e9, hcx0, hx⟩ := hv3.at hlt
            subst e9
            have l1 := World.block_lt_of_cell? w3 _ hc0
            have l2 := World.block_lt_of_cell? w3 _ hcx0
            have hc := (hb.cell l1).trans hc0
            have hcx := (hb.cell l2).trans hcx0
            have hF := Lib.hid (fun (k : Nat) hk => (hf.2 k hk).1)
            have i1 : (k : Int) < (n : Int) := by omega
            have HST := Lib.hid (HDS2.out k y x hy.out hx.out)
            have hbx := HAL.out.2.2 x (List.mem_of_getElem? hx.out)
            have hby := HBL.out.2.2 y (List.mem_of_getElem? hy.out)
            have j1 : IntKind.i64.wrap (y - x) = y - x := IntWalk.i64_in _ (by omega)
            generalize D k = Dk at *
            clear hc0 hcx0
            have bbd : Below wr.heap.size wr (wr.alloc (.cells #[.int .i64 (y - x)] 3)).drew := ((Below.refl _ _).alloc (Nat.le_refl _) _).drew
            have hcn : (wr.alloc (.cells #[.int .i64 (y - x)] 3)).drew.cell? ⟨wr.heap.size, 0, none⟩ = some (.int .i64 (y - x)) := by go_simp
            have hfn := hf.grow bbd
            have hbn := Keeps.step hb bbd
            have hln : Dk.length + 1 ≤ 67108864 := by omega
            go_wp2_with fail
            go_region_held3 (fun w' => w'.cell? ⟨b1, o1 + k, none⟩ = some (.int .i64 y) ∧ w'.cell? ⟨b2, o2 + k, none⟩ = some (.int .i64 x)) (first | go_keep | (go_split_ands; exact ⟨cell_grown hgrow (by assumption) l1 hF.out, cell_grown hgrow (by assumption) l2 hF.out⟩)) ((refine step_app1 (W := w3) (by rfl) _ _ (by rfl) (by rfl) hfn hbn (by rfl) hcn hln ?_; intro v' w5 f5 b5 hgrow))
            clear j1
            go_wp2_with fail
            go_roundw
            case rel => exact ⟨k + 1, _, rfl, by omega, by go_num, by rw [HST.out]; exact f5, b5⟩
            case measure => simp [intOf]; omega
          · have hkn : k = n := by omega
            have i1 : ¬ (k : Int) < (n : Int) := by omega
            rw [hkn, HDn.out] at hf
            clear hkn
            have b0r := Keeps.step b03 hb
            have hu := h.below b0r
            go_wp2_with fail
            refine (coordinatesSpec hu hf.reads HF.out.cart hl (by rw [HDS.out.1, HN.out]) HDS.out.2).mono ?_
            rintro e w6 ⟨r6, rfl, f6, b6⟩
            rw [HN.out] at f6
            have b06 := Keeps.step b0r b6
            obtain ⟨a6, c6, rfl⟩ := f6.form
            rw [HCL.out] at f6 ⊢
            have hr6 := f6.reads
            go_wp2_with fail
            generalize wr = wO at *
            go_loopw [10] (fun j wr => ∃ (k : Nat), k ≤ n ∧ j = .int .i64 k ∧ Hid (∀ q, q < k → 0 ≤ coord c (dfL b a) q ∧ (coord c (dfL b a) q).tmod (Fin.det n c) = 0) ∧ Below w6.heap.size w6 wr) (fun j _ => n - (intOf j).toNat)
            case atStart => exact ⟨0, Nat.zero_le _, rfl, Lib.hid (fun q hq => by omega), Below.refl _ _⟩
            case round =>
              obtain ⟨k, hk, rfl, HK, hb9⟩ := hrel
              have b09 := Keeps.step b06 hb9
              by_cases hlt : k < n
              · obtain ⟨b1, o1, x, e8, hc0, hx⟩ := (hr6.below hb9).at hlt
                subst e8
                have HX : Hid (coord c (dfL b a) k = x) := Lib.hid (by have := hx.out; rw [HCA.out k hlt] at this; exact Option.some.inj this)
                have hxb := HCB.out k
                rw [HX.out] at hxb
                have i1 : (k : Int) < (n : Int) := by omega
                have g0 := fun y : GW wr => y.cell hc0
                have hu9 := h.below b09
                by_cases hx0 : x < 0
                · have e0 := Lib.hid (HNO.out k hlt (.inl (by rw [HX.out]; exact hx0)))
                  have i2 : decide (x < 0) = true := decide_eq_true hx0
                  go_wp2_with fail
                  refine region_grow (by kernel_rfl) (by kernel_rfl) ?_
                  repeat (go_big_quiet_step (fail))
                  refine wpQuiet_nil ?_
                  intro w8 hb8
                  go_wp2_with fail
                  go_ret
                  exact ⟨ret_bool e0.out.symm, Keeps.step b09 hb8⟩
                · have hdb := HDB.out
                  have hdp := HDP.out
                  have i2 : decide (x < 0) = false := decide_eq_false hx0
                  have i3 : (0 : Int) ≤ x := by omega
                  have hem : x.tmod (Fin.det n c) = x % (Fin.det n c) := Int.tmod_eq_emod_of_nonneg i3
                  by_cases hdv : x % (Fin.det n c) = 0
                  · have HK2 : Hid (∀ q, q < k + 1 → 0 ≤ coord c (dfL b a) q ∧ (coord c (dfL b a) q).tmod (Fin.det n c) = 0) := Lib.hid (fun q hq => by
                      rcases Nat.lt_or_ge q k with h9 | h9
                      · exact HK.out q h9
                      · have : q = k := by omega
                        subst this
                        rw [HX.out]
                        exact ⟨i3, by rw [hem]; exact hdv⟩)
                    have j1 : (x % (Fin.det n c) != 0) = false := by simp [hdv]
                    have j2 : (x.tmod (Fin.det n c) != 0) = false := by rw [hem]; exact j1
                    clear hdv hem
                    generalize hdd : Fin.det n c = d at *
                    have HDD := Lib.hid hdd
                    clear hdd
                    go_wp2_with fail
                    refine region_grow (by kernel_rfl) (by kernel_rfl) ?_
                    repeat (go_big_quiet_step ((rename_i y; go_at_call 50; exact Calls.grow_of (v := .int .i64 (Fin.det n c)) (v' := .int .i64 d) y (detSpec (hu9.below y.le) HSQ.out HSM.out hn4) (by rw [HDD.out]))))
                    refine wpQuiet_nil ?_
                    intro w8 hb8
                    clear j1 j2
                    go_wp2_with fail
                    go_roundw
                    case rel => exact ⟨k + 1, by omega, by go_num, HK2, Keeps.step hb9 hb8⟩
                    case measure => simp [intOf]; omega
                  · have e0 := Lib.hid (HNO.out k hlt (.inr (by rw [HX.out, hem]; exact hdv)))
                    have j1 : (x % (Fin.det n c) != 0) = true := by simp [hdv]
                    have j2 : (x.tmod (Fin.det n c) != 0) = true := by rw [hem]; exact j1
                    clear hdv hem
                    generalize hdd : Fin.det n c = d at *
                    have HDD := Lib.hid hdd
                    clear hdd
                    go_wp2_with fail
                    refine region_grow (by kernel_rfl) (by kernel_rfl) ?_
                    repeat (go_big_quiet_step ((rename_i y; go_at_call 50; exact Calls.grow_of (v := .int .i64 (Fin.det n c)) (v' := .int .i64 d) y (detSpec (hu9.below y.le) HSQ.out HSM.out hn4) (by rw [HDD.out]))))
                    refine wpQuiet_nil ?_
                    intro w8 hb8
                    clear j1 j2
                    go_wp2_with fail
                    go_ret
                    exact ⟨ret_bool e0.out.symm, Keeps.step b09 hb8⟩
              · have hkn : k = n := by omega
                have e0 : Hid (res = true) := Lib.hid (HYES.out (fun q hq => HK.out q (by omega)))
                have i1 : ¬ (k : Int) < (n : Int) := by omega
                clear hkn
                go_wp2_with fail
                go_ret
                exact ⟨ret_bool e0.out.symm, b09⟩
end Go.Proofs.Yteglcjembimegaa
