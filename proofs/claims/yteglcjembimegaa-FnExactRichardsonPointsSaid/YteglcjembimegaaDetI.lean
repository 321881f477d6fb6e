/- Determinants by the program. Condition: square matrices of at most four rows, numbers up to 2000. -/
import Derived.Test.YteglcjembimegaaDetS
import Derived.Test.YteglcjembimegaaAppS
namespace Go.Proofs.Yteglcjembimegaa
open Go.RowKit
set_option maxRecDepth 20000

def DetI (n : Nat) : Prop := ∀ (S : Nat → Prop) (u : Value) (m : List (List Int)) (w : World), RII S w u m → Fin.Sqr m n → Fin.Small 2000 m → n ≤ 4 →
    Calls Try.prog 147 #[u] w fun e w' => e = .returned (.int .i64 (Fin.det n m)) ∧ Below w.heap.size w w'
theorem detImpl0 : DetI 0 := by
  intro S u m w h hs _ _
  obtain ⟨a, cap, rfl⟩ := h.form
  rw [hs.len]
  go_enter Try.func147, Try.ntmps147
  go_wp2_with fail
  go_ret
  exact ⟨rfl, Below.refl _ _⟩

set_option maxHeartbeats 2000000 in
theorem detImplS {n : Nat} (ih : DetI n) : DetI (n + 1) := by
  intro S u m w h hs hsm hn
  have ih := Lib.hid ih
  obtain ⟨a, cap, rfl⟩ := h.form
  have HS := Lib.hid hs
  have HSM := Lib.hid hsm
  rw [hs.len] at h ⊢
  have HLen := Lib.hid hs.len
  clear hs hsm
  have hcap := h.cap.1
  have HR : Hid (Fin.sum (fun j => Fin.sgn j (Fin.en m 0 j * Fin.det n (Fin.without m j))) (n + 1) = Fin.det (n + 1) m) := Lib.hid rfl
  have HR0 : Hid (Fin.sum (fun j => Fin.sgn j (Fin.en m 0 j * Fin.det n (Fin.without m j))) 0 = 0) := Lib.hid rfl
  have HST : Hid (∀ k, Fin.sum (fun j => Fin.sgn j (Fin.en m 0 j * Fin.det n (Fin.without m j))) (k + 1) = Fin.sum (fun j => Fin.sgn j (Fin.en m 0 j * Fin.det n (Fin.without m j))) k + Fin.sgn k (Fin.en m 0 k * Fin.det n (Fin.without m k))) := Lib.hid (fun _ => rfl)
  have HBD : Hid (∀ k, k ≤ 4 → -384000000000000 ≤ Fin.sum (fun j => Fin.sgn j (Fin.en m 0 j * Fin.det n (Fin.without m j))) k ∧ Fin.sum (fun j => Fin.sgn j (Fin.en m 0 j * Fin.det n (Fin.without m j))) k ≤ 384000000000000) := Lib.hid (fun k hk => Fin.sum_bd (by omega) HSM.out hk)
  generalize Fin.det (n + 1) m = res at *
  generalize Fin.sum (fun j => Fin.sgn j (Fin.en m 0 j * Fin.det n (Fin.without m j))) = sm at *
  have z0 : ((n : Int) + 1 == 0) = false := by simp; omega
  obtain ⟨b, o, r0, l0, rfl, hc0, hr0, hl0⟩ := h.at (j := 0) (by omega)
  obtain ⟨ar0, cr0, rfl⟩ := hr0.form
  have hln0 : l0.length = n + 1 := HS.out.row l0 (List.mem_of_getElem? hl0.out)
  rw [hln0] at hr0 hc0
  rw [Nat.add_zero] at hc0
  clear hln0
  have hcases : cap = 1 ∨ 1 < cap := by omega
  obtain ⟨A1, C1, hdr, hrun⟩ : ∃ (A1 C1 : Nat), RII S w (.slice (some ⟨b, A1, none⟩) n C1) (m.drop 1) ∧ ((cap = 1 ∧ A1 = o ∧ C1 = 0 ∧ n = 0) ∨ (1 < cap ∧ A1 = o + 1 ∧ C1 = cap - 1)) := by
    rcases hcases with hcp | hcp
    · have hn0 : n = 0 := by omega
      subst hcp; subst hn0
      exact ⟨o, 0, h.cutEnd (Nat.le_refl _) (by omega), .inl ⟨rfl, rfl, rfl, rfl⟩⟩
    · exact ⟨o + 1, cap - 1, by simpa using h.cutFrom (k := 1) (by omega), .inr ⟨hcp, rfl, rfl⟩⟩
  clear hcases
  rcases hrun with ⟨rfl, rfl, rfl, hn0⟩ | ⟨hcp1, rfl, rfl⟩
  rotate_left
  all_goals
    first
    | have hn0' : n ≤ 0 := by omega
      clear hn0
    | skip
    go_enter Try.func147, Try.ntmps147
    go_wp2_with fail
    go_loopw [3, 4, 17] (fun d g j wr => ∃ (k : Nat) (s : Int), k ≤ n + 1 ∧ j = .int .i64 k ∧ d = .int .i64 s ∧ g = .int .i64 (Fin.sgn k 1) ∧ Hid (s = sm k) ∧ Below w.heap.size w wr) (fun _ _ j _ => n + 1 - (intOf j).toNat)
    case atStart => exact ⟨0, 0, Nat.zero_le _, rfl, rfl, rfl, Lib.hid HR0.out.symm, Below.refl _ _⟩
    case round =>
      obtain ⟨k, s, hk, rfl, rfl, rfl, HSM2, hb⟩ := hrel
      by_cases hlt : k < n + 1
      · obtain ⟨b', o', x, rfl, hcx, hx⟩ := (hr0.below hb).at hlt
        have HX : Hid (Fin.en m 0 k = x) := Lib.hid (Fin.en_at hl0.out hx.out)
        have hbd := HBD.out k (by omega)
        rw [← HSM2.out] at hbd
        have hpd := Fin.term_bd (n := n) (by omega) HSM.out k
        rw [HX.out] at hpd
        have hxb := HSM.out.en 0 k
        rw [HX.out] at hxb
        have HSS := HST.out k
        rw [HX.out, ← HSM2.out] at HSS
        have HSS2 := Lib.hid HSS
        clear HSS
        generalize hD : Fin.det n (Fin.without m k) = D at *
        have HD := Lib.hid hD
        clear hD
        have hxb1 : -2000 ≤ x ∧ x ≤ 2000 := by omega
        clear hxb
        have i0 : (k : Int) < (n : Int) + 1 := by omega
        generalize wr = wO at *
        have hsg : (Fin.sgn k 1 = 1 ∧ Fin.sgn (k + 1) 1 = -1 ∧ ∀ y, Fin.sgn k y = y) ∨ (Fin.sgn k 1 = -1 ∧ Fin.sgn (k + 1) 1 = 1 ∧ ∀ y, Fin.sgn k y = -y) := by
          by_cases h2 : k % 2 = 1
          · exact .inr ⟨sgn_odd h2 _, sgn_even (by omega) _, fun y => sgn_odd h2 y⟩
          · exact .inl ⟨sgn_even h2 _, sgn_odd (by omega) _, fun y => sgn_even h2 y⟩
        by_cases hx0 : x = 0
        · subst hx0
          have HS3 : Hid (s = sm (k + 1)) := Lib.hid (by
            rw [HSS2.out, Int.zero_mul]
            rcases hsg with ⟨_, _, e⟩ | ⟨_, _, e⟩ <;> rw [e] <;> omega)
          rcases hsg with ⟨e1, e2, _⟩ | ⟨e1, e2, _⟩
          all_goals
            rw [e1]
            have E2 := Lib.hid e2
            clear e1 e2 hpd
            go_wp2_with fail
            go_roundw
            case rel => exact ⟨k + 1, s, by omega, by go_num, rfl, by rw [E2.out], HS3, hb⟩
            case measure => simp [intOf]; omega
        · have hx1 : (x != 0) = true := by simpa using hx0
          clear hx0
          generalize Fin.sgn k 1 = g at *
          obtain ⟨A, hA⟩ : ∃ A : Nat → List (List Int), ∀ q, A q = ((m.drop 1).take q).map (Fin.cut k) := ⟨_, fun _ => rfl⟩
          have HA0 : Hid (A 0 = []) := Lib.hid (by rw [hA]; simp)
          have HAn : Hid (A n = Fin.without m k) := Lib.hid (by rw [hA, List.take_of_length_le (by have := HLen.out; simp; omega)]; rfl)
          have HAS : Hid (∀ q r, m[q + 1]? = some r → A (q + 1) = A q ++ [Fin.cut k r]) := Lib.hid (fun q r hr => by rw [hA, hA]; exact Fin.without_step hr)
          have HAL : Hid (∀ q, (A q).length ≤ q) := Lib.hid (fun q => by rw [hA]; simp; omega)
          clear hA
          go_wp2_with fail
          obtain ⟨w1, hw1⟩ : ∃ w1, w1 = wO.alloc (.cells #[] 23) := ⟨_, rfl⟩
          obtain ⟨f1, b1⟩ := FR.empty_of (Below.refl _ wO) hw1
          rw [← hw1]
          clear hw1
          rw [← HA0.out] at f1
          go_loopw [7, 28] (fun vv j w' => ∃ (q : Nat) (v : Value), v = vv ∧ q ≤ n ∧ j = .int .i64 q ∧ FR (New wO w') w' v (A q) ∧ Below wO.heap.size wO w') (fun _ j _ => n - (intOf j).toNat)
          case atStart => exact ⟨0, _, rfl, Nat.zero_le _, rfl, f1, b1⟩
          case round =>
            obtain ⟨q, v, rfl, hq, rfl, hfm, hbm⟩ := hrel
            by_cases hltq : q < n
            · try (exfalso; omega)
              all_goals
                obtain ⟨b2, o2, r, l, e2, hcr, hr, hl⟩ := (hdr.below (Keeps.step hb hbm)).at hltq
                simp only [Option.some.injEq, Addr.mk.injEq, and_true] at e2
                obtain ⟨rfl, rfl⟩ := e2
                have hl1 : m[q + 1]? = some l := by have := hl.out; rw [List.getElem?_drop, Nat.add_comm] at this; exact this
                have HST := Lib.hid (HAS.out q l hl1)
                have hal := HAL.out q
                obtain ⟨ar, cr, rfl⟩ := hr.form
                have hln : l.length = n + 1 := HS.out.row l (List.mem_of_getElem? hl1)
                rw [hln] at hr hcr
                obtain ⟨b3, o3, y, rfl, hcy, hy⟩ := hr.at (j := 0) (by omega)
                have hcr1 := hr.cap.1
                have hT1 := hr.cutTo (k := k) (by omega)
                have HTL : Hid ((l.take k).length ≤ 4 ∧ (l.drop (k + 1)).length ≤ 4) := Lib.hid (by simp; omega)
                have HLL : Hid ((Fin.cut k l).length = n ∧ [] ++ l.take k ++ l.drop (k + 1) = Fin.cut k l) := Lib.hid ⟨by simp [Fin.cut]; omega, rfl⟩
                clear hl1 hcy hy hln
                generalize l.take k = lA at *
                obtain ⟨wX, hwX⟩ : ∃ wX, wX = (wr.alloc (.cells #[] 3)).drew := ⟨_, rfl⟩
                have fX : FI (New wr wX) wX (.slice (some ⟨wr.heap.size, 0, none⟩) 0 0) [] := by
                  obtain ⟨f0, _⟩ := fresh_of (w := wr) (Below.refl _ wr) rfl
                  rw [hwX]
                  exact (f0.below ((Below.refl _ _).drew)).mono (fun _ h => h)
                have bX : Below wr.heap.size wr wX := by rw [hwX]; exact ((Below.refl _ wr).alloc (Nat.le_refl _) _).drew
                have hT1X := RI.below hT1 bX
                by_cases hkc : k + 1 = cr
                · have hT2 : RI S wr (.slice (some ⟨b3, o3, none⟩) 0 0) (l.drop (k + 1)) := RL.cutEnd hr (by omega) (by omega)
                  subst hkc
                  generalize l.drop (k + 1) = lB at *
                  rw [hwX] at fX bX hT1X
                  have i2 : (0 : Int) ≤ (k : Int) + 1 := by omega
                  have i3 : (k : Int) + 1 ≤ (n : Int) + 1 := by omega
                  have i4 : (k : Int) ≤ (k : Int) + 1 := by omega
                  have i5 : k ≤ n := by omega
                  go_wp2_with fail
                  have j1 : IntKind.i64.wrap ((k : Int) + 1) = (k : Int) + 1 := IntWalk.i64_in _ (by omega)
                  have j2 : ((k : Int) + 1).toNat = k + 1 := by omega
                  go_region_held3 (fun _ => True) (trivial) (first
                    | (refine step_app (W := wr) (by rfl) _ _ (by rfl) (by rfl) fX bX (by rfl) hT1X (by have := HTL.out; simp; omega) ?_; intro v1 w4 f4 b4 g4)
                    | (refine step_app (W := wr) (by rfl) _ _ (by rfl) (by rfl) f4 b4 (by rfl) (RI.below hT2 b4) (by have := HTL.out; simp; omega) ?_; intro v2 w5 f5 b5 g5; rw [HLL.out.2] at f5; obtain ⟨a5, c5, e5⟩ := f5.form; rw [HLL.out.1] at e5; subst e5)
                    | (refine step_appR (W := wO) (r := .slice a5 n c5) (l := Fin.cut k l) (by rfl) _ _ (by rfl) (by rfl) (hfm.grow (b5.trans ((Below.refl _ _).alloc b5.size _))) (Keeps.step hbm (b5.trans ((Below.refl _ _).alloc b5.size _))) (by rfl) (by go_simp) ((f5.reads.below ((Below.refl _ _).alloc (Nat.le_refl _) _)).mono (fun d hd => ⟨Nat.le_trans hbm.size hd.1, by have := hd.2; simp; omega⟩)) (by omega) ?_; intro v6 w6 f6 b6 g6))
                  clear j1 j2
                  go_wp2_with fail
                  go_roundw
                  case rel => exact ⟨q + 1, _, rfl, by omega, by go_num, by rw [HST.out]; exact f6, b6⟩
                  case measure => simp [intOf]; omega
                · have hkc1 : k + 1 < cr := by omega
                  have hT2 : RI S wr (.slice (some ⟨b3, o3 + (k + 1), none⟩) (n - k) (cr - (k + 1))) (l.drop (k + 1)) := by
                    have := hr.cutFrom (k := k + 1) (by omega)
                    rwa [show n + 1 - (k + 1) = n - k by omega] at this
                  clear hkc
                  generalize l.drop (k + 1) = lB at *
                  rw [hwX] at fX bX hT1X
                  have i2 : (0 : Int) ≤ (k : Int) + 1 := by omega
                  have i3 : (k : Int) + 1 ≤ (n : Int) + 1 := by omega
                  have i4 : (k : Int) ≤ (k : Int) + 1 := by omega
                  have i5 : k ≤ n := by omega
                  have i6 : (k : Int) ≤ (cr : Int) := by omega
                  have i7 : ¬ cr = k + 1 := by omega
                  go_wp2_with fail
                  have j1 : IntKind.i64.wrap ((k : Int) + 1) = (k : Int) + 1 := IntWalk.i64_in _ (by omega)
                  have j2 : ((k : Int) + 1).toNat = k + 1 := by omega
                  go_region_held3 (fun _ => True) (trivial) (first
                    | (refine step_app (W := wr) (by rfl) _ _ (by rfl) (by rfl) fX bX (by rfl) hT1X (by have := HTL.out; simp; omega) ?_; intro v1 w4 f4 b4 g4)
                    | (refine step_app (W := wr) (by rfl) _ _ (by rfl) (by rfl) f4 b4 (by rfl) (RI.below hT2 b4) (by have := HTL.out; simp; omega) ?_; intro v2 w5 f5 b5 g5; rw [HLL.out.2] at f5; obtain ⟨a5, c5, e5⟩ := f5.form; rw [HLL.out.1] at e5; subst e5)
                    | (refine step_appR (W := wO) (r := .slice a5 n c5) (l := Fin.cut k l) (by rfl) _ _ (by rfl) (by rfl) (hfm.grow (b5.trans ((Below.refl _ _).alloc b5.size _))) (Keeps.step hbm (b5.trans ((Below.refl _ _).alloc b5.size _))) (by rfl) (by go_simp) ((f5.reads.below ((Below.refl _ _).alloc (Nat.le_refl _) _)).mono (fun d hd => ⟨Nat.le_trans hbm.size hd.1, by have := hd.2; simp; omega⟩)) (by omega) ?_; intro v6 w6 f6 b6 g6))
                  clear j1 j2
                  go_wp2_with fail
                  go_roundw
                  case rel => exact ⟨q + 1, _, rfl, by omega, by go_num, by rw [HST.out]; exact f6, b6⟩
                  case measure => simp [intOf]; omega
            · have hqn : q = n := by omega
              rw [hqn, HAn.out] at hfm
              clear hqn
              rcases hsg with ⟨rfl, e2, e3⟩ | ⟨rfl, e2, e3⟩
              · have E2 := Lib.hid e2
                have HS3 : Hid (sm (k + 1) = s + x * D) := Lib.hid (by rw [HSS2.out, e3])
                clear e2 e3 HSS2
                go_wp2_with fail
                refine (ih.out _ _ _ _ hfm.reads (HS.out.without (by omega)) (HSM.out.without k) (by omega)).mono ?_
                rintro e w9 ⟨rfl, b9⟩
                rw [HD.out]
                have b19 := Keeps.step (Keeps.step hb hbm) b9
                clear ih b9
                go_wp2_with fail
                go_roundw
                case rel => exact ⟨k + 1, s + x * D, by omega, by go_num, by go_num, by rw [E2.out], Lib.hid HS3.out.symm, b19⟩
                case measure => simp [intOf]; omega
              · have E2 := Lib.hid e2
                have HS3 : Hid (sm (k + 1) = s + -x * D) := Lib.hid (by rw [HSS2.out, e3, Int.neg_mul])
                have hneg : -96000000000000 ≤ -x * D ∧ -x * D ≤ 96000000000000 := by rw [Int.neg_mul]; omega
                clear e2 e3 HSS2
                go_wp2_with fail
                refine (ih.out _ _ _ _ hfm.reads (HS.out.without (by omega)) (HSM.out.without k) (by omega)).mono ?_
                rintro e w9 ⟨rfl, b9⟩
                rw [HD.out]
                have b19 := Keeps.step (Keeps.step hb hbm) b9
                clear ih b9
                go_wp2_with fail
                go_roundw
                case rel => exact ⟨k + 1, s + -x * D, by omega, by go_num, by go_num, by rw [E2.out], Lib.hid HS3.out.symm, b19⟩
                case measure => simp [intOf]; omega
      · have hkn : k = n + 1 := by omega
        have e0 : Hid (s = res) := Lib.hid (by rw [HSM2.out, hkn, HR.out])
        subst hkn
        go_wp2_with fail
        go_ret
        exact ⟨ret_int e0.out, hb⟩

theorem detImplN : ∀ n, DetI n
  | 0 => detImpl0
  | n + 1 => detImplS (detImplN n)
theorem detImpl {n : Nat} {S : Nat → Prop} {u : Value} {m : List (List Int)} {w : World} (h : RII S w u m) (hs : Fin.Sqr m n) (hm : Fin.Small 2000 m) (hn : n ≤ 4) :
    Calls Try.prog 147 #[u] w fun e w' => e = .returned (.int .i64 (Fin.det n m)) ∧ Below w.heap.size w w' := detImplN n S u m w h hs hm hn
end Go.Proofs.Yteglcjembimegaa
