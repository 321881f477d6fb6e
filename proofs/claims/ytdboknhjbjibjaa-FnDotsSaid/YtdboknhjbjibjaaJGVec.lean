/- The dot action, by the program and by the reference. Condition: sizes up to 2^24. -/
import Derived.Test.YtdboknhjbjibjaaJGCart
namespace Go.Proofs.Ytdboknhjbjibjaa
open Go.RowKit
set_option maxRecDepth 20000

def actOn (c : List (List Int)) (w v : List Int) : List Int := if isWd c w && decide (v.length = c.length) then act c w v else v
def dot (c : List (List Int)) (w v : List Int) : List Int := if isWd c w && decide (v.length = c.length) then (act c w (addW v (List.replicate c.length 1))).map less1 else v

theorem rho_of {c : List (List Int)} (h : isC c = true) : rho c = List.replicate c.length 1 := by unfold rho; rw [if_pos h]
theorem addK_less : ∀ (l : List Int), addK (-1) l (List.replicate l.length 1) = l.map less1
  | [] => rfl
  | x :: xs => by
    simp only [List.length_cons, List.replicate_succ, addK, List.map_cons]
    rw [addK_less xs]
    congr 1
    unfold less1
    rw [show wrap64 (-1 * 1) = -1 from by kernel_rfl]; rfl

set_option maxHeartbeats 1000000 in
theorem actOnWeightSpec {S S' S'' : Nat → Prop} {u z v : Value} {c : List (List Int)} {l l' : List Int} {w : World} (h : RII S w u c) (h' : RI S' w z l) (h'' : RI S'' w v l') (hl : total c ≤ 16777216) (hl' : l.length ≤ 16777216) (hl'' : l'.length ≤ 16777216) :
    Calls Try.prog 25 #[u, z, v] w fun e w' => ∃ r, e = .returned r ∧ FI (New w w') w' r (actOn c l l') ∧ Below w.heap.size w w' := by
  have hcl : c.length ≤ 16777216 := by unfold total at hl; omega
  obtain ⟨a, cap, rfl⟩ := h.form
  obtain ⟨a', cap', rfl⟩ := h'.form
  obtain ⟨a'', cap'', rfl⟩ := h''.form
  have HG : Hid (isWd c l = true ∧ l'.length = c.length → actOn c l l' = act c l l') := Lib.hid (by rintro ⟨h1, h2⟩; simp [actOn, h1, h2])
  have HB : Hid (isWd c l = false ∨ l'.length ≠ c.length → actOn c l l' = l') := Lib.hid (by rintro (h | h) <;> simp [actOn, h])
  have HE : Hid (l = [] → act c l l' = l') := Lib.hid (by rintro rfl; rfl)
  have HLE : Hid (isWd c l = true → CartanP c ∧ Lets c.length l) := Lib.hid (fun h => ⟨isC_iff.1 (isWd_parts h).1, (isWd_parts h).2.2⟩)
  generalize hres : actOn c l l' = res at *
  clear hres
  have HA0 : Hid (act c (l.drop l.length) l' = l') := Lib.hid (by simp [act])
  have HR : Hid (act c (l.drop 0) l' = act c l l') := Lib.hid (by simp)
  generalize hm : l.length = m at *
  have HM := Lib.hid hm
  clear hm
  generalize hn : c.length = n at *
  have HN := Lib.hid hn
  clear hn
  generalize hq : l'.length = q at *
  have HQ := Lib.hid hq
  clear hq
  go_enter Try.func25, Try.ntmps25
  obtain ⟨f1, b1⟩ := fresh_of (w := w) (Below.refl _ w) rfl
  go_wp2_with (at_builtin; go_must (refine wpList_app (W := w) rfl _ _ rfl rfl f1 b1 rfl (h''.below b1) ?_ ?_))
  · have := HQ.out; simp; omega
  · intro v1 w2 f2 b2 _
    clear b1 f1 h''
    have f2 : FI (New w w2) w2 v1 (act c (l.drop m) l') := by rw [HA0.out]; exact f2
    go_wp2_with fail
    go_loopw [7, 8] (fun z j wr => ∃ (k : Nat), k ≤ m ∧ j = .int .i64 ((k : Int) - 1) ∧ FI (New w wr) wr z (act c (l.drop k) l') ∧ Hid (k < m → isWd c l = true ∧ q = n) ∧ Below w.heap.size w wr) (fun _ j _ => (intOf j + 1).toNat)
    case atStart => exact ⟨m, Nat.le_refl _, by go_num, f2, Lib.hid (by omega), b2⟩
    case round =>
      obtain ⟨k, hk, rfl, hf, HK, hb⟩ := hrel
      rcases k with _ | k
      · have e0 : Hid (act c (l.drop 0) l' = res) := by
          refine Lib.hid ?_
          rw [HR.out]
          by_cases hm0 : 0 < m
          · rw [HG.out (HK.out hm0)]
          · have he : l = [] := List.eq_nil_of_length_eq_zero (by have := HM.out; omega)
            rw [HE.out he]
            by_cases hg : isWd c l = true ∧ q = n
            · rw [HG.out hg, HE.out he]
            · rw [HB.out]
              by_cases h1 : isWd c l = true
              · exact .inr (fun e => hg ⟨h1, e⟩)
              · exact .inl (by simpa using h1)
        rw [e0.out] at hf
        go_wp2_with fail
        go_ret
        exact ⟨_, rfl, hf, hb⟩
      · obtain ⟨b, o, x, rfl, hc, hx⟩ := ((h'.below hb)).at (j := k) (by omega)
        have e1 : ((k + 1 : Nat) : Int) - 1 = (k : Int) := by omega
        have l1 := World.block_lt_of_cell? wr _ hc
        rw [e1]
        go_wp2_with fail
        refine (isWordSpec (h.below hb) (h'.below hb) hl (by rw [HM.out]; exact hl')).mono ?_
        rintro e w3 ⟨rfl, hw3⟩
        have b3 := below_quiet hw3
        have hc := (b3.cell l1).trans hc
        clear hw3
        have hf := hf.grow b3
        have hb := Keeps.step hb b3
        have hstop : Hid ((isWd c l = false ∨ q ≠ n) → act c (l.drop (k + 1)) l' = res) := by
          refine Lib.hid (fun hbad => ?_)
          have hkm : k + 1 = m := by
            by_cases h : k + 1 < m
            · obtain ⟨h1, h2⟩ := HK.out h
              rcases hbad with h | h
              · rw [h1] at h; cases h
              · exact absurd h2 h
            · omega
          rw [hkm, HA0.out, HB.out hbad]
        cases hg : isWd c l
        · rw [hstop.out (.inl hg)] at hf
          go_wp2_with fail
          go_ret
          exact ⟨_, rfl, hf, hb⟩
        · by_cases hqn : q = n
          · obtain ⟨hcp, hle⟩ := HLE.out hg
            obtain ⟨i, rfl, hi⟩ := lets_at hle hx.out
            have hi : i < n := hi
            have hlen : (act c (l.drop (k + 1)) l').length = n := by rw [act_length]; have := HQ.out; omega
            have HST : Hid (act c (l.drop k) l' = refl c i (act c (l.drop (k + 1)) l')) := Lib.hid (by rw [act_step hx.out]; rfl)
            have HSq : Hid (Sq c n) := Lib.hid (by have := hcp.sq; rw [HN.out] at this; exact this)
            have HG2 := Lib.hid hg
            subst hqn
            clear hg hcp hle
            go_wp2_with fail
            refine (reflectSpec (h.below hb) hf.reads i hi HSq.out hlen hcl).mono ?_
            rintro e w4 ⟨r, rfl, f4, b4⟩
            go_wp2_with fail
            go_roundw
            case rel => exact ⟨k, by omega, by go_num, by rw [HST.out]; exact f4.mono (fun b hb' => ⟨by have := hb.size; have := hb'.1; omega, hb'.2⟩), Lib.hid (fun _ => ⟨HG2.out, by simp⟩), Keeps.step hb b4⟩
            case measure => simp [intOf]
          · rw [hstop.out (.inr hqn)] at hf
            have hqn2 : ¬ (q : Int) = (n : Int) := by omega
            go_wp2_with fail
            go_ret
            exact ⟨_, rfl, hf, hb⟩

theorem dot_yes {c : List (List Int)} {l l' : List Int} (h : isWd c l = true) (h2 : l'.length = c.length) : dot c l l' = (act c l (addW l' (List.replicate c.length 1))).map less1 := by simp [dot, h, h2]
theorem dot_no {c : List (List Int)} {l l' : List Int} (h : isWd c l = false ∨ l'.length ≠ c.length) : dot c l l' = l' := by rcases h with h | h <;> simp [dot, h]
set_option maxHeartbeats 1000000 in
theorem dotImpl {S S' S'' : Nat → Prop} {u z v : Value} {c : List (List Int)} {l l' : List Int} {w : World} (h : RII S w u c) (h' : RI S' w z l) (h'' : RI S'' w v l') (hl : total c ≤ 16777216) (hl' : l.length ≤ 16777216) (hl'' : l'.length ≤ 16777216) :
    Calls Try.prog 6 #[u, z, v] w fun e w' => ∃ r, e = .returned r ∧ FI (New w w') w' r (dot c l l') ∧ Below w.heap.size w w' := by
  have hcl : c.length ≤ 16777216 := by unfold total at hl; omega
  obtain ⟨a, cap, rfl⟩ := h.form
  obtain ⟨a', cap', rfl⟩ := h'.form
  obtain ⟨a'', cap'', rfl⟩ := h''.form
  have HG : Hid (isWd c l = true ∧ l'.length = c.length → dot c l l' = (act c l (addW l' (List.replicate c.length 1))).map less1) := Lib.hid (by rintro ⟨h1, h2⟩; exact dot_yes h1 h2)
  have HB : Hid (isWd c l = false ∨ l'.length ≠ c.length → dot c l l' = l') := Lib.hid dot_no
  have HLE : Hid (isWd c l = true → CartanP c ∧ Lets c.length l) := Lib.hid (fun h => ⟨isC_iff.1 (isWd_parts h).1, (isWd_parts h).2.2⟩)
  generalize hres : dot c l l' = res at *
  clear hres
  have HM := Lib.hid hl'
  generalize hn : c.length = n at *
  have HN := Lib.hid hn
  clear hn
  generalize hq : l'.length = q at *
  have HQ := Lib.hid hq
  clear hq
  generalize hm : l.length = m at *
  go_enter Try.func6, Try.ntmps6
  go_wp2_with fail
  refine (isWordImpl h h' hl (by rw [hm]; exact HM.out)).mono ?_
  rintro e w3 ⟨rfl, hw3⟩
  have b3 := below_quiet hw3
  clear hw3
  obtain ⟨f1, b1⟩ := fresh_of (w := w3) b3 rfl
  have copy : (isWd c l = false ∨ q ≠ n) → Hid (res = l') := fun hbad => Lib.hid (HB.out hbad)
  cases hg : isWd c l
  · have e0 := copy (.inl hg)
    go_wp2_with (at_builtin; go_must (refine wpList_app (W := w) rfl _ _ rfl rfl f1 b1 rfl (h''.below (b3.trans ((Below.refl w3.heap.size w3).alloc (Nat.le_refl _) _ |>.mono b3.size))) ?_ ?_))
    · have := HQ.out; simp; omega
    · intro v1 w4 f4 b4 _
      go_wp2_with fail
      go_ret
      rw [e0.out]
      exact ⟨_, rfl, f4, b4⟩
  · by_cases hqn : q = n
    · subst hqn
      obtain ⟨hcp, hle⟩ := HLE.out hg
      have HG2 := Lib.hid (HG.out ⟨hg, rfl⟩)
      have HSq : Hid (Sq c q) := Lib.hid (by have := hcp.sq; rw [HN.out] at this; exact this)
      have HLE2 := Lib.hid hle
      clear HLE HG HB copy hg hcp hle f1 b1
      go_wp2_with fail
      refine (onesImpl q hl'').mono ?_
      rintro e w4 ⟨r4, rfl, f4, b4⟩
      go_wp2_with fail
      refine (addWeightsImpl ((h''.below b3).below b4) f4.reads (by rw [HQ.out]; exact hl'') (by simp; exact hl'')).mono ?_
      rintro e w5 ⟨r5, rfl, f5, b5⟩
      have b35 := Keeps.step b4 b5
      have b05 := Keeps.step b3 b35
      go_wp2_with fail
      refine (actedImpl (h.below b05) (h'.below b05) f5.reads HSq.out HLE2.out (by rw [addW_length, HQ.out]; simp) hl'' (by rw [hm]; exact HM.out)).mono ?_
      rintro e w6 ⟨r6, rfl, f6, b6⟩
      have b06 := Keeps.step b05 b6
      go_wp2_with fail
      refine (lessRhoImpl f6.reads (by rw [act_length, addW_length, HQ.out]; simp; exact hl'')).mono ?_
      rintro e w7 ⟨r7, rfl, f7, b7⟩
      go_wp2_with fail
      go_ret
      rw [HG2.out]
      exact ⟨_, rfl, f7.mono (fun b hb => ⟨Nat.le_trans b06.size hb.1, hb.2⟩), Keeps.step b06 b7⟩
    · have e0 := copy (.inr hqn)
      have hqn2 : ¬ (q : Int) = (n : Int) := by omega
      go_wp2_with (at_builtin; go_must (refine wpList_app (W := w) rfl _ _ rfl rfl f1 b1 rfl (h''.below (b3.trans ((Below.refl w3.heap.size w3).alloc (Nat.le_refl _) _ |>.mono b3.size))) ?_ ?_))
      · have := HQ.out; simp; omega
      · intro v1 w4 f4 b4 _
        go_wp2_with fail
        go_ret
        rw [e0.out]
        exact ⟨_, rfl, f4, b4⟩

set_option maxHeartbeats 1000000 in
theorem dotSpec {S S' S'' : Nat → Prop} {u z v : Value} {c : List (List Int)} {l l' : List Int} {w : World} (h : RII S w u c) (h' : RI S' w z l) (h'' : RI S'' w v l') (hl : total c ≤ 16777216) (hl' : l.length ≤ 16777216) (hl'' : l'.length ≤ 16777216) :
    Calls Try.prog 8 #[u, z, v] w fun e w' => ∃ r, e = .returned r ∧ FI (New w w') w' r (dot c l l') ∧ Below w.heap.size w w' := by
  have hcl : c.length ≤ 16777216 := by unfold total at hl; omega
  obtain ⟨a, cap, rfl⟩ := h.form
  obtain ⟨a', cap', rfl⟩ := h'.form
  obtain ⟨a'', cap'', rfl⟩ := h''.form
  have HG : Hid (isWd c l = true ∧ l'.length = c.length → dot c l l' = addK (-1) (actOn c l (addW l' (rho c))) (rho c) ∧ (rho c).length = c.length ∧ (actOn c l (addW l' (rho c))).length = c.length) := Lib.hid (by
    rintro ⟨h1, h2⟩
    have hr := rho_of (isWd_parts h1).1
    have hl : (addW l' (rho c)).length = c.length := by rw [addW_length, hr, List.length_replicate, h2, Nat.min_self]
    have ha : actOn c l (addW l' (rho c)) = act c l (addW l' (rho c)) := by simp [actOn, h1, hl]
    refine ⟨?_, by rw [hr, List.length_replicate], by rw [ha, act_length, hl]⟩
    rw [dot_yes h1 h2, ha, hr, ← addK_less, act_length, addW_length, List.length_replicate, h2, Nat.min_self])
  have HB : Hid (isWd c l = false ∨ l'.length ≠ c.length → dot c l l' = l') := Lib.hid dot_no
  generalize hres : dot c l l' = res at *
  clear hres
  have HM := Lib.hid hl'
  generalize hn : c.length = n at *
  have HN := Lib.hid hn
  clear hn
  generalize hq : l'.length = q at *
  have HQ := Lib.hid hq
  clear hq
  generalize hm : l.length = m at *
  go_enter Try.func8, Try.ntmps8
  go_wp2_with fail
  refine (isWordSpec h h' hl (by rw [hm]; exact HM.out)).mono ?_
  rintro e w3 ⟨rfl, hw3⟩
  have b3 := below_quiet hw3
  clear hw3
  obtain ⟨f1, b1⟩ := fresh_of (w := w3) b3 rfl
  have copy : (isWd c l = false ∨ q ≠ n) → Hid (res = l') := fun hbad => Lib.hid (HB.out hbad)
  cases hg : isWd c l
  · have e0 := copy (.inl hg)
    go_wp2_with (at_builtin; go_must (refine wpList_app (W := w) rfl _ _ rfl rfl f1 b1 rfl (h''.below (b3.trans ((Below.refl w3.heap.size w3).alloc (Nat.le_refl _) _ |>.mono b3.size))) ?_ ?_))
    · have := HQ.out; simp; omega
    · intro v1 w4 f4 b4 _
      go_wp2_with fail
      go_ret
      rw [e0.out]
      exact ⟨_, rfl, f4, b4⟩
  · by_cases hqn : q = n
    · subst hqn
      have HG2 := Lib.hid (HG.out ⟨hg, rfl⟩)
      clear HG HB copy hg f1 b1
      go_wp2_with fail
      refine (rhoOfSpec (h.below b3) hl).mono ?_
      rintro e w4 ⟨r4, rfl, f4, b4⟩
      go_wp2_with fail
      refine (addWeightsSpec ((h''.below b3).below b4) f4.reads (by rw [HQ.out]; exact hl'') (by rw [HG2.out.2.1]; exact hl'')).mono ?_
      rintro e w5 ⟨r5, rfl, f5, b5⟩
      have b35 := Keeps.step b4 b5
      have b05 := Keeps.step b3 b35
      go_wp2_with fail
      refine (actOnWeightSpec (h.below b05) (h'.below b05) f5.reads hl (by rw [hm]; exact HM.out) (by rw [addW_length, HG2.out.2.1, HQ.out, Nat.min_self]; exact hl'')).mono ?_
      rintro e w6 ⟨r6, rfl, f6, b6⟩
      have b06 := Keeps.step b05 b6
      go_wp2_with fail
      refine (rhoOfSpec (h.below b06) hl).mono ?_
      rintro e w7 ⟨r7, rfl, f7, b7⟩
      have b07 := Keeps.step b06 b7
      go_wp2_with fail
      refine (add27Spec (-1) ((f6.below b7).reads) f7.reads (by rw [HG2.out.2.2]; exact hl'') (by rw [HG2.out.2.1]; exact hl'') (by rw [HG2.out.2.2, HG2.out.2.1]; exact Nat.le_refl _)).mono ?_
      rintro e w8 ⟨r8, rfl, f8, b8⟩
      go_wp2_with fail
      go_ret
      rw [HG2.out.1]
      exact ⟨_, rfl, f8.mono (fun b hb => ⟨Nat.le_trans b07.size hb.1, hb.2⟩), Keeps.step b07 b8⟩
    · have e0 := copy (.inr hqn)
      have hqn2 : ¬ (q : Int) = (n : Int) := by omega
      go_wp2_with (at_builtin; go_must (refine wpList_app (W := w) rfl _ _ rfl rfl f1 b1 rfl (h''.below (b3.trans ((Below.refl w3.heap.size w3).alloc (Nat.le_refl _) _ |>.mono b3.size))) ?_ ?_))
      · have := HQ.out; simp; omega
      · intro v1 w4 f4 b4 _
        go_wp2_with fail
        go_ret
        rw [e0.out]
        exact ⟨_, rfl, f4, b4⟩
end Go.Proofs.Ytdboknhjbjibjaa
