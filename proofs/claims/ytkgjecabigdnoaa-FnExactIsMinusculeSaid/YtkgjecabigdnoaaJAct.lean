/- What words do to weights, by the program and by the reference; the dot action. Condition: sizes up to 2^24. -/
import Derived.Test.YtkgjecabigdnoaaJSums
namespace Go.Proofs.Ytkgjecabigdnoaa
open Go.RowKit
set_option maxRecDepth 20000

theorem ones_take (n k : Nat) (_ : k < n) : List.replicate (k + 1) (1 : Int) = List.replicate k 1 ++ [1] := by simp [List.replicate_succ']

set_option maxHeartbeats 1000000 in
theorem rhoOfSpec {S : Nat → Prop} {u : Value} {c : List (List Int)} {w : World} (h : RII S w u c) (hl : total c ≤ 16777216) :
    Calls Try.prog 59 #[u] w fun e w' => ∃ r, e = .returned r ∧ FI (New w w') w' r (rho c) ∧ Below w.heap.size w w' := by
  obtain ⟨a, cap, rfl⟩ := h.form
  have hn0 : c.length ≤ 16777216 := by unfold total at hl; omega
  have R0 : Hid (rho c = if isC c then List.replicate c.length 1 else []) := Lib.hid rfl
  generalize rho c = res at *
  generalize hn : c.length = n at *
  have H := Lib.hid hn
  clear hn
  go_enter Try.func59, Try.ntmps59
  go_wp2_with fail
  obtain ⟨w1, hw1⟩ : ∃ w1, w1 = w.alloc (.cells #[] 3) := ⟨_, rfl⟩
  obtain ⟨f1, b1⟩ := fresh_of (Below.refl _ w) hw1
  rw [← hw1]
  clear hw1
  go_loopw [3, 4] (fun z j wr => ∃ (k : Nat) (acc : List Int), k ≤ n ∧ j = .int .i64 k ∧ FI (New w wr) wr z acc ∧ acc.length ≤ k ∧ Hid (acc = List.replicate k 1) ∧ Hid (0 < k → isC c = true) ∧ Below w.heap.size w wr) (fun _ j _ => n - (intOf j).toNat)
  case atStart => exact ⟨0, [], Nat.zero_le _, rfl, f1, Nat.zero_le _, Lib.hid rfl, Lib.hid (by omega), b1⟩
  case round =>
    obtain ⟨k, acc, hk, rfl, hf, hal, HA, HC, hb⟩ := hrel
    by_cases hlt : k < n
    · go_wp2_with fail
      refine (isCartanSpec (h.below hb) hl).mono ?_
      rintro e w2 ⟨rfl, hw2⟩
      have b2 := below_quiet hw2
      clear hw2
      have hf := hf.grow b2
      have hb := Keeps.step hb b2
      cases hC : isC c
      · have e0 : Hid (acc = res) := by
          have h0 : k = 0 := by
            rcases Nat.eq_zero_or_pos k with h | h
            · exact h
            · have := HC.out h; rw [hC] at this; cases this
          refine Lib.hid ?_
          rw [R0.out, hC, HA.out, h0]
          rfl
        go_wp2_with fail
        go_ret
        have e := e0.out
        subst e
        exact ⟨_, rfl, hf, hb⟩
      · have bb := (Below.refl w2.heap.size w2).alloc (Nat.le_refl _) (.cells #[.int .i64 1] 3)
        have HA2 : Hid (acc ++ [1] = List.replicate (k + 1) 1) := Lib.hid (by rw [HA.out, ones_take n k hlt])
        have HC2 := Lib.hid hC
        clear hC
        go_wp2_with (at_builtin; go_must (refine wpList_app (W := w) rfl _ _ rfl rfl (hf.grow bb) (Keeps.step hb bb) rfl (RI.one w2 1) ?_ ?_))
        · simp; omega
        · intro v' w3 f3 b4 _
          go_wp2_with fail
          go_roundw
          case rel => exact ⟨k + 1, acc ++ [1], by omega, by go_num, f3, by simp; omega, HA2, Lib.hid (fun _ => HC2.out), b4⟩
          case measure => simp [intOf]; omega
    · have hkn : k = n := by omega
      have e0 : Hid (acc = res) := by
        refine Lib.hid ?_
        rw [R0.out, HA.out, hkn]
        rcases Nat.eq_zero_or_pos k with h | h
        · rw [← hkn, h]; cases isC c <;> rfl
        · rw [HC.out h]; rfl
      go_wp2_with fail
      go_ret
      have e := e0.out
      subst e
      exact ⟨_, rfl, hf, hb⟩

/-- What a word does: its last letter first. -/
def act (c : List (List Int)) : List Int → List Int → List Int
  | [], v => v
  | i :: w, v => refl c i.toNat (act c w v)

theorem act_length (c : List (List Int)) : ∀ (w v : List Int), (act c w v).length = v.length
  | [], _ => rfl
  | i :: w, v => by simp [act, refl_length, act_length c w v]

/-- All letters are rows. -/
def Lets (n : Nat) (w : List Int) : Prop := ∀ x ∈ w, 0 ≤ x ∧ x < n

theorem allB_lets {c : List (List Int)} {w : List Int} (h : allB (ptB c) w = true) : Lets c.length w := by
  intro x hx
  have := allB_iff.1 h x hx
  unfold ptB inR at this
  simp at this
  omega

theorem isWd_parts {c : List (List Int)} {w : List Int} (h : isWd c w = true) : isC c = true ∧ w.length ≤ 15 ∧ Lets c.length w := by
  unfold isWd at h
  simp only [Bool.and_eq_true, decide_eq_true_eq] at h
  exact ⟨h.1.1, h.1.2, allB_lets h.2⟩

set_option maxHeartbeats 1000000 in
set_option maxRecDepth 10000 in
theorem reflectedImpl {S S' : Nat → Prop} {u v : Value} {c : List (List Int)} {l : List Int} {w : World} {n : Nat} (h : RII S w u c) (h' : FI S' w v l) (hd : ∀ b, S b → ¬ S' b) (i : Nat) (hi : i < n) (hsq : Sq c n) (hln : l.length = n) (hn0 : n ≤ 16777216) :
    Calls Try.prog 82 #[u, .int .i64 i, v] w fun e w' => e = .returned (.tuple #[]) ∧ FI S' w' v (refl c i l) ∧ Only S' w w' := by
  obtain ⟨a, cap, rfl⟩ := h.form
  have hlen := h'.1.1
  obtain ⟨g, cap', hv, hg⟩ : ∃ g cap', v = .slice (some ⟨g, 0, none⟩) n cap' ∧ S' g := by
    rcases h'.1.2 with ⟨_, h0⟩ | ⟨g, cap', cur, hv, _⟩
    · omega
    · exact ⟨g, cap', by rw [hv, hln], h'.2 g (by rw [hv]; rfl)⟩
  subst hv
  have H := Lib.hid hln
  have HS := Lib.hid hsq
  obtain ⟨x, hx⟩ : ∃ x, l[i]? = some x := ⟨_, List.getElem?_eq_getElem (by omega)⟩
  have R0 : Hid (refl c i l = reflL c i x l 0) := Lib.hid (by rw [refl, num_at hx])
  generalize refl c i l = res at *
  rw [hsq.len] at h ⊢
  have hA : RI Any w (.slice (some ⟨g, 0, none⟩) n cap') l := h'.any
  obtain ⟨b2, o2, x2, e2, hcx, hx2⟩ := RI.at hA hi
  have exx : x2 = x := by have := hx2.out; rw [hx] at this; simpa using this.symm
  subst exx
  simp only [Option.some.injEq, Addr.mk.injEq, and_true] at e2
  obtain ⟨rfl, rfl⟩ := e2
  rw [Nat.zero_add] at hcx
  have HF0 : FI S' w (.slice (some ⟨g, 0, none⟩) n cap') (reflL c i x2 (l.take 0) 0 ++ l.drop 0) := by simpa [reflL] using h'
  go_enter Try.func82, Try.ntmps82
  go_wp2_with fail
  go_loopw [14] (fun j wr => ∃ (k : Nat), k ≤ n ∧ j = .int .i64 k ∧ FI S' wr (.slice (some ⟨g, 0, none⟩) n cap') (reflL c i x2 (l.take k) 0 ++ l.drop k) ∧ Only S' w wr) (fun j _ => n - (intOf j).toNat)
  case atStart => exact ⟨0, Nat.zero_le _, rfl, HF0, Only.refl _ _⟩
  case round =>
    obtain ⟨k, hk, rfl, hf, hb⟩ := hrel
    by_cases hlt : k < n
    · obtain ⟨y, hy⟩ : ∃ y, l[k]? = some y := ⟨_, List.getElem?_eq_getElem (by have := H.out; omega)⟩
      have hlk : (reflL c i x2 (l.take k) 0 ++ l.drop k).length = n := by have := H.out; simp [reflL_length]; omega
      have hstep : Hid ((reflL c i x2 (l.take k) 0 ++ l.drop k).set k (wrap64 (y - wrap64 (x2 * ent c k i))) = reflL c i x2 (l.take (k + 1)) 0 ++ l.drop (k + 1)) := by
        have e1 : (reflL c i x2 (l.take k) 0).length = k := by have := H.out; simp [reflL_length]; omega
        refine Lib.hid ?_
        rw [reflL_take c i x2 l 0 k y hy, Nat.zero_add, List.set_append_right _ _ (by rw [e1]; exact Nat.le_refl _), e1, drop_step hy]
        simp
      have hat : (reflL c i x2 (l.take k) 0 ++ l.drop k)[k]? = some y := by
        have e1 : (reflL c i x2 (l.take k) 0).length = k := by have := H.out; simp [reflL_length]; omega
        rw [List.getElem?_append_right (by rw [e1]; exact Nat.le_refl _), e1, drop_step hy]
        simp
      have hall : FI S' wr (.slice (some ⟨g, 0, none⟩) n cap') (reflL c i x2 (l.take k) 0 ++ l.drop k) ∧ True := ⟨hf, trivial⟩
      have hA2 : RI Any wr (.slice (some ⟨g, 0, none⟩) n cap') (reflL c i x2 (l.take k) 0 ++ l.drop k) := hf.any
      obtain ⟨b5, o5, y2, e5, hcy, hy2⟩ := RI.at hA2 hlt
      simp only [Option.some.injEq, Addr.mk.injEq, and_true] at e5
      obtain ⟨rfl, rfl⟩ := e5
      have : y2 = y := by have := hy2.out; rw [hat] at this; simpa using this.symm
      subst this
      obtain ⟨b3, o3, r3, l3, rfl, hcr, hr3, hl3⟩ := (h.only hb hd).at hlt
      obtain ⟨a4, c4, rfl⟩ := hr3.form
      have hl3n := HS.out.row k l3 hl3.out
      rw [hl3n] at hcr hr3
      obtain ⟨b4, o4, z, rfl, hcz, hz⟩ := hr3.at hi
      have hown := hf.1
      rw [hlk] at hown
      have hst := Lib.hid (hown.stored k (.int .i64 (wrap64 (y2 - wrap64 (x2 * z)))))
      have hfr := hown.frozenAt k
      rw [Nat.zero_add] at hcy
      have hst2 : FI S' (wr.setCell ⟨g, k, none⟩ (.int .i64 (wrap64 (y2 - wrap64 (x2 * z))))).drew (.slice (some ⟨g, 0, none⟩) n cap') (reflL c i x2 (l.take (k + 1)) 0 ++ l.drop (k + 1)) := by
        have hz2 := ent_at hl3.out hz.out
        have e1 := hstep.out
        rw [hz2] at e1
        have hl2 : (reflL c i x2 (l.take (k + 1)) 0 ++ l.drop (k + 1)).length = n := by have := H.out; simp [reflL_length]; omega
        refine ⟨?_, hf.2⟩
        rw [hl2, ← e1]
        have := hst.out.1
        rw [← List.map_set] at this
        exact this
      go_wp2_with fail
      go_still_tail 15, (by kernel_rfl)
      go_wp2_with fail
      go_roundw
      case rel => exact ⟨k + 1, by omega, by go_num, hst2, (Only.setCell hb hg _).drewN 1⟩
      case measure => simp [intOf]; omega
    · have hkn : k = n := by omega
      subst hkn
      go_wp2_with fail
      go_end0
      exact ⟨rfl, by rw [R0.out]; rw [List.take_of_length_le (by have := H.out; omega), List.drop_of_length_le (by have := H.out; omega), List.append_nil] at hf; exact hf, hb⟩
end Go.Proofs.Ytkgjecabigdnoaa
