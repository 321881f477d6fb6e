/- Whether all pairings of a weight with coroots are 0 or 1, by the program and by the reference. Condition: sizes up to 2^24. -/
import Derived.Test.YtkgjecabigdnoaaJGRtI
import Derived.Test.YtkgjecabigdnoaaJPairing
namespace Go.Proofs.Ytkgjecabigdnoaa
open Go.RowKit
set_option maxRecDepth 20000

def pgs (v : List Int) (L : List (List Int)) : List Int := L.map fun r => pairSum v r 0
def okP (ps : List Int) : Bool := ps.all fun n => decide (0 ≤ n ∧ n ≤ 1)
def anP (ps : List Int) : Bool := ps.any fun n => decide (n = 1)
def mnB (c : List (List Int)) (v : List Int) : Bool := finB c && isW c v && (okP (pgs v (corR c)) && anP (pgs v (corR c)))
theorem okP_step {ps : List Int} {k : Nat} {x : Int} (h : ps[k]? = some x) : okP (ps.take (k + 1)) = (okP (ps.take k) && decide (0 ≤ x ∧ x ≤ 1)) := by rw [take_step h]; simp [okP]
theorem anP_step {ps : List Int} {k : Nat} {x : Int} (h : ps[k]? = some x) : anP (ps.take (k + 1)) = (anP (ps.take k) || decide (x = 1)) := by rw [take_step h]; simp [anP]
theorem okP_no {ps : List Int} {k : Nat} {x : Int} (h : ps[k]? = some x) (hx : ¬ (0 ≤ x ∧ x ≤ 1)) : okP ps = false := by
  unfold okP
  rw [List.all_eq_false]
  exact ⟨x, List.mem_of_getElem? h, by simpa using hx⟩

set_option maxHeartbeats 4000000 in
theorem minSpec {S S' : Nat → Prop} {u v : Value} {c : List (List Int)} {l : List Int} {w : World} (h : RII S w u c) (h' : RI S' w v l) (hl : total c ≤ 16777216) (hl' : l.length ≤ 16777216) :
    Calls Try.prog 27 #[u, v] w fun e w' => e = .returned (.bool (mnB c l)) ∧ Below w.heap.size w w' := by
  have HR : Hid (mnB c l = (finB c && isW c l && (okP (pgs l (corR c)) && anP (pgs l (corR c))))) := Lib.hid rfl
  have hP := positiveCorootsSpec' h hl
  have HT := Lib.hid (corR_total c)
  have HRL : Hid (∀ x ∈ corR c, x.length ≤ 16777216) := Lib.hid (fun x hx => by have := row_le hx; have := HT.out; omega)
  have HWT := Lib.hid (fun (w1 : World) (b1 : Below w.heap.size w w1) => isWeightSpec (h.below b1) (h'.below b1) hl hl')
  have h0' := h'
  obtain ⟨au, cu, rfl⟩ := h.form
  obtain ⟨av, cv, rfl⟩ := h'.form
  generalize hlv : l.length = nv at *
  have HLV := Lib.hid hlv
  clear hlv
  have hL9 : (corR c).length ≤ 1000 := by have := HT.out; unfold total at this; omega
  generalize corR c = L at *
  have HP0 : Hid (okP ((pgs l L).take 0) = true ∧ anP ((pgs l L).take 0) = false) := Lib.hid ⟨rfl, rfl⟩
  have HPS := Lib.hid (fun (k : Nat) (x : List Int) (hx : L[k]? = some x) => (by unfold pgs; rw [List.getElem?_map, hx]; rfl : (pgs l L)[k]? = some (pairSum l x 0)))
  have HPE : Hid (∀ k, L.length ≤ k → (pgs l L).take k = pgs l L) := Lib.hid (fun k hk => List.take_of_length_le (by unfold pgs; rw [List.length_map]; exact hk))
  go_enter Try.func27, Try.ntmps27
  go_wp2_with fail
  refine hP.mono ?_
  rintro e w1 ⟨r1, rfl, f1, b1⟩
  have hs := (HS.nil (Below.refl _ w)).addF b1 f1
  have hs : HS w w1 [aF r1 L] := hs
  clear hP f1 b1
  cases hF : finB c with
  | false =>
    obtain ⟨a1, c1, rfl⟩ := (hs.F 0 rfl).read.form
    generalize L.length = m at *
    have e0 : Hid (mnB c l = false) := Lib.hid (by rw [HR.out, hF]; rfl)
    have b1 := hs.bl
    clear hF hs
    go_wp2_with fail
    refine wp_loop_rounds 1 ?_
    rw [rounds_succ]
    by_cases h0m : 0 < m
    · have i1 : (0 : Int) < (m : Int) := by omega
      go_wp2_with fail
      go_ret
      exact ⟨ret_bool e0.out.symm, b1⟩
    · have i1 : ¬ (0 : Int) < (m : Int) := by omega
      go_wp2_with fail
      go_ret
      exact ⟨ret_bool e0.out.symm, b1⟩
  | true =>
    have HR2 : Hid (mnB c l = (isW c l && (okP (pgs l L) && anP (pgs l L)))) := Lib.hid (by rw [HR.out, hF]; rfl)
    obtain ⟨a1, c1, rfl⟩ := (hs.F 0 rfl).read.form
    generalize hm : L.length = m at *
    have HM := Lib.hid hm
    clear hF hm
    go_wp2_with fail
    go_loopw [7, 8] (fun zz kk wr => ∃ k : Nat, k ≤ m ∧ kk = .int .i64 k ∧ zz = .bool (!(anP ((pgs l L).take k))) ∧ HS w wr [aF (.slice a1 m c1) L] ∧ Hid (okP ((pgs l L).take k) = true)) (fun _ kk _ => m - (intOf kk).toNat)
    case atStart => exact ⟨0, Nat.zero_le _, rfl, by rw [HP0.out.2]; rfl, hs, Lib.hid HP0.out.1⟩
    case round =>
      clear hs
      obtain ⟨k, hk, rfl, rfl, hs, HOK⟩ := hrel
      generalize hz : anP ((pgs l L).take k) = z at *
      have HZ := Lib.hid hz
      clear hz
      by_cases hkm : k < m
      · have i1 : (k : Int) < (m : Int) := by omega
        have hread : RII _ wr (.slice a1 m c1) L := (hs.F 0 rfl).read
        obtain ⟨b3, o3, r3, x, rfl, hc3, hr3, hx⟩ := RII.at hread hkm
        have hx2 := HPS.out k x hx.out
        have H1 := Lib.hid (okP_step hx2)
        have H2 := Lib.hid (anP_step hx2)
        have H3 := Lib.hid (okP_no hx2)
        have hv := h0'.below hs.bl
        have hcall := pairingSpec hv hr3 (by rw [HLV.out]; exact hl') (HRL.out x (List.mem_of_getElem? hx.out))
        clear hx2 hx hread
        generalize pairSum l x 0 = n at *
        go_wp2_with fail
        refine hcall.mono ?_
        rintro e w3 ⟨rfl, m3, rfl⟩
        have hs := hs.drewN m3
        have hs : HS w (wr.drewN m3) [aF (.slice (some ⟨b3, o3, none⟩) m c1) L] := hs
        generalize wr.drewN m3 = w4 at *
        have b1 := hs.bl
        clear hcall hc3 hr3 hv
        by_cases hn0 : n < 0
        · have e0 : Hid (mnB c l = false) := Lib.hid (by rw [HR2.out, H3.out (by omega)]; cases isW c l <;> rfl)
          go_wp2_with fail
          go_ret
          exact ⟨ret_bool e0.out.symm, b1⟩
        · by_cases hn1 : 1 < n
          · have e0 : Hid (mnB c l = false) := Lib.hid (by rw [HR2.out, H3.out (by omega)]; cases isW c l <;> rfl)
            go_wp2_with fail
            go_ret
            exact ⟨ret_bool e0.out.symm, b1⟩
          · rcases (show n = 0 ∨ n = 1 by omega) with rfl | rfl
            · have HO2 : Hid (okP ((pgs l L).take (k + 1)) = true) := Lib.hid (by rw [H1.out, HOK.out]; rfl)
              have HA2 : Hid (anP ((pgs l L).take (k + 1)) = z) := Lib.hid (by rw [H2.out, HZ.out]; simp)
              cases z
              all_goals
                go_wp2_with fail
                go_roundw
                case rel => exact ⟨k + 1, by omega, by go_num, by rw [HA2.out]; rfl, hs, HO2⟩
                case measure => simp [intOf]; omega
            · have HO2 : Hid (okP ((pgs l L).take (k + 1)) = true) := Lib.hid (by rw [H1.out, HOK.out]; rfl)
              have HA2 : Hid (anP ((pgs l L).take (k + 1)) = true) := Lib.hid (by rw [H2.out]; simp)
              cases z
              all_goals
                go_wp2_with fail
                go_roundw
                case rel => exact ⟨k + 1, by omega, by go_num, by rw [HA2.out]; rfl, hs, HO2⟩
                case measure => simp [intOf]; omega
      · have i1 : ¬ (k : Int) < (m : Int) := by omega
        have HFIN : Hid (mnB c l = (isW c l && z)) := Lib.hid (by
          have h1 := HOK.out
          have h2 := HZ.out
          rw [HPE.out k (by omega)] at h1 h2
          rw [HR2.out, h1, h2]; rfl)
        have hcall := HWT.out wr hs.bl
        have b1 := hs.bl
        generalize isW c l = q at *
        clear hs
        go_wp2_with fail
        refine hcall.mono ?_
        rintro e w3 ⟨rfl, m3, rfl⟩
        have b3 := below_drewN b1 m3
        clear hcall b1
        cases q <;> cases z
        all_goals
          go_wp2_with fail
          go_ret
          exact ⟨ret_bool (by rw [HFIN.out]; rfl), b3⟩

set_option maxHeartbeats 4000000 in
theorem minImpl {S S' : Nat → Prop} {u v : Value} {c : List (List Int)} {l : List Int} {w : World} (h : RII S w u c) (h' : RI S' w v l) (hl : total c ≤ 16777216) (hl' : l.length ≤ 16777216) :
    Calls Try.prog 28 #[u, v] w fun e w' => e = .returned (.bool (mnB c l)) ∧ Below w.heap.size w w' := by
  have HR : Hid (mnB c l = (finB c && isW c l && (okP (pgs l (corR c)) && anP (pgs l (corR c))))) := Lib.hid rfl
  have hP := positiveCorootsImpl' h hl
  have HT := Lib.hid (corR_total c)
  have HRL : Hid (∀ x ∈ corR c, x.length ≤ 16777216) := Lib.hid (fun x hx => by have := row_le hx; have := HT.out; omega)
  have HWT := Lib.hid (fun (w1 : World) (b1 : Below w.heap.size w w1) => isWeightImpl (h.below b1) (h'.below b1) hl hl')
  have h0' := h'
  obtain ⟨au, cu, rfl⟩ := h.form
  obtain ⟨av, cv, rfl⟩ := h'.form
  generalize hlv : l.length = nv at *
  have HLV := Lib.hid hlv
  clear hlv
  have hL9 : (corR c).length ≤ 1000 := by have := HT.out; unfold total at this; omega
  generalize corR c = L at *
  have HP0 : Hid (okP ((pgs l L).take 0) = true ∧ anP ((pgs l L).take 0) = false) := Lib.hid ⟨rfl, rfl⟩
  have HPS := Lib.hid (fun (k : Nat) (x : List Int) (hx : L[k]? = some x) => (by unfold pgs; rw [List.getElem?_map, hx]; rfl : (pgs l L)[k]? = some (pairSum l x 0)))
  have HPE : Hid (∀ k, L.length ≤ k → (pgs l L).take k = pgs l L) := Lib.hid (fun k hk => List.take_of_length_le (by unfold pgs; rw [List.length_map]; exact hk))
  go_enter Try.func28, Try.ntmps28
  go_wp2_with fail
  refine hP.mono ?_
  rintro e w1 ⟨r1, rfl, f1, b1⟩
  have hs := (HS.nil (Below.refl _ w)).addF b1 f1
  have hs : HS w w1 [aF r1 L] := hs
  clear hP f1 b1
  cases hF : finB c with
  | false =>
    have e0 : Hid (mnB c l = false) := Lib.hid (by rw [HR.out, hF]; rfl)
    have b1 := hs.bl
    clear hF hs
    go_wp2_with fail
    go_ret
    exact ⟨ret_bool e0.out.symm, b1⟩
  | true =>
    have HR2 : Hid (mnB c l = (isW c l && (okP (pgs l L) && anP (pgs l L)))) := Lib.hid (by rw [HR.out, hF]; rfl)
    obtain ⟨a1, c1, rfl⟩ := (hs.F 0 rfl).read.form
    generalize hm : L.length = m at *
    have HM := Lib.hid hm
    have hcall := HWT.out w1 hs.bl
    clear hF hm
    generalize isW c l = q at *
    go_wp2_with fail
    refine hcall.mono ?_
    rintro e w3 ⟨rfl, m3, rfl⟩
    have hs := hs.drewN m3
    have hs : HS w (w1.drewN m3) [aF (.slice a1 m c1) L] := hs
    generalize w1.drewN m3 = w4 at *
    clear hcall
    cases q with
    | false =>
      have e0 : Hid (mnB c l = false) := Lib.hid (by rw [HR2.out]; rfl)
      have b1 := hs.bl
      clear hs
      go_wp2_with fail
      go_ret
      exact ⟨ret_bool e0.out.symm, b1⟩
    | true =>
      go_wp2_with fail
      go_loopw [7, 26] (fun zz kk wr => ∃ k : Nat, k ≤ m ∧ kk = .int .i64 k ∧ zz = .bool (anP ((pgs l L).take k)) ∧ HS w wr [aF (.slice a1 m c1) L] ∧ Hid (okP ((pgs l L).take k) = true)) (fun _ kk _ => m - (intOf kk).toNat)
      case atStart => exact ⟨0, Nat.zero_le _, rfl, by rw [HP0.out.2], hs, Lib.hid HP0.out.1⟩
      case round =>
        clear hs
        obtain ⟨k, hk, rfl, rfl, hs, HOK⟩ := hrel
        generalize hz : anP ((pgs l L).take k) = z at *
        have HZ := Lib.hid hz
        clear hz
        by_cases hkm : k < m
        · have i1 : (k : Int) < (m : Int) := by omega
          have hread : RII _ wr (.slice a1 m c1) L := (hs.F 0 rfl).read
          obtain ⟨b3, o3, r3, x, rfl, hc3, hr3, hx⟩ := RII.at hread hkm
          have hx2 := HPS.out k x hx.out
          have H1 := Lib.hid (okP_step hx2)
          have H2 := Lib.hid (anP_step hx2)
          have H3 := Lib.hid (okP_no hx2)
          have hv := h0'.below hs.bl
          have hcall := pairingImpl hv hr3 (by rw [HLV.out]; exact hl') (HRL.out x (List.mem_of_getElem? hx.out))
          clear hx2 hx hread
          generalize pairSum l x 0 = n at *
          go_wp2_with fail
          refine hcall.mono ?_
          rintro e w3 ⟨rfl, m3, rfl⟩
          have hs := hs.drewN m3
          have hs : HS w (wr.drewN m3) [aF (.slice (some ⟨b3, o3, none⟩) m c1) L] := hs
          generalize wr.drewN m3 = w4 at *
          have b1 := hs.bl
          clear hcall hc3 hr3 hv
          by_cases hn0 : n < 0
          · have e0 : Hid (mnB c l = false) := Lib.hid (by rw [HR2.out, H3.out (by omega)]; rfl)
            go_wp2_with fail
            go_ret
            exact ⟨ret_bool e0.out.symm, b1⟩
          · by_cases hn1 : 1 < n
            · have e0 : Hid (mnB c l = false) := Lib.hid (by rw [HR2.out, H3.out (by omega)]; rfl)
              go_wp2_with fail
              go_ret
              exact ⟨ret_bool e0.out.symm, b1⟩
            · rcases (show n = 0 ∨ n = 1 by omega) with rfl | rfl
              · have HO2 : Hid (okP ((pgs l L).take (k + 1)) = true) := Lib.hid (by rw [H1.out, HOK.out]; rfl)
                have HA2 : Hid (anP ((pgs l L).take (k + 1)) = z) := Lib.hid (by rw [H2.out, HZ.out]; simp)
                cases z
                all_goals
                  go_wp2_with fail
                  go_roundw
                  case rel => exact ⟨k + 1, by omega, by go_num, by rw [HA2.out], hs, HO2⟩
                  case measure => simp [intOf]; omega
              · have HO2 : Hid (okP ((pgs l L).take (k + 1)) = true) := Lib.hid (by rw [H1.out, HOK.out]; rfl)
                have HA2 : Hid (anP ((pgs l L).take (k + 1)) = true) := Lib.hid (by rw [H2.out]; simp)
                cases z
                all_goals
                  go_wp2_with fail
                  go_roundw
                  case rel => exact ⟨k + 1, by omega, by go_num, by rw [HA2.out], hs, HO2⟩
                  case measure => simp [intOf]; omega
        · have i1 : ¬ (k : Int) < (m : Int) := by omega
          have HFIN : Hid (mnB c l = z) := Lib.hid (by
            have h1 := HOK.out
            have h2 := HZ.out
            rw [HPE.out k (by omega)] at h1 h2
            rw [HR2.out, h1, h2]; rfl)
          have b1 := hs.bl
          clear hs
          go_wp2_with fail
          go_ret
          exact ⟨ret_bool HFIN.out.symm, b1⟩
end Go.Proofs.Ytkgjecabigdnoaa
