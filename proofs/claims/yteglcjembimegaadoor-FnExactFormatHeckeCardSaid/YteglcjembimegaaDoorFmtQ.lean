/- Polynomials as text, by the reference. Condition: sizes up to 2^20. -/
import Derived.Test.YteglcjembimegaaDoorFmtP
namespace Go.Proofs.YteglcjembimegaaDoor
open Go.RowKit
set_option maxRecDepth 20000

theorem bs_empty {l : List UInt8} (h : l = []) : (bs l).toList.isEmpty = true := by
  have e : (bs l).toList = l := by simp [bs, ByteArray.toList_eq]
  rw [e, h]; rfl
theorem at0_of {l : List Int} {k : Nat} {x : Int} (h : l[k]? = some x) : at0 l k = x := by simp [at0, h]
theorem pT_step {l : List Int} {k : Nat} {x : Int} (h : l[k]? = some x) : pT l (k + 1) = stepT (pT l k) k x := by show stepT (pT l k) k (at0 l k) = _; rw [at0_of h]

set_option maxHeartbeats 2000000 in
theorem formatPolySpec {S : Nat → Prop} {v : Value} {l : List Int} {w : World} (h : RI S w v l) (hi : InL l) (hl : l.length ≤ 1048576) :
    Calls Tryd.prog 24 #[v] w fun e w' => e = .returned (.string (bs (fmtP l))) ∧ Below w.heap.size w w' := by
  obtain ⟨a, cap, rfl⟩ := h.form
  have HI := Lib.hid hi
  have HST := Lib.hid (fun (k : Nat) (x : Int) (hx : l[k]? = some x) => pT_step hx)
  have HLL := Lib.hid (fun k (hk : k ≤ 1048576) => pT_len hi k hk)
  have HF := Lib.hid (show (pT l l.length = [] → fmtP l = [48]) ∧ (pT l l.length ≠ [] → fmtP l = pT l l.length) from ⟨fun e => by unfold fmtP; rw [if_pos e], fun e => by unfold fmtP; rw [if_neg e]⟩)
  have H0 : Hid (bs (pT l 0) = ⟨#[]⟩) := Lib.hid rfl
  generalize fmtP l = res at *
  generalize hm : l.length = m at *
  have HM := Lib.hid hm
  clear hm hi
  go_enter Tryd.func24, Tryd.ntmps24
  go_wp2_with fail
  go_loopw [3, 4] (fun s j wr => ∃ (k : Nat), k ≤ m ∧ j = .int .i64 k ∧ s = .string (bs (pT l k)) ∧ Below w.heap.size w wr) (fun _ j _ => m - (intOf j).toNat)
  case atStart => exact ⟨0, Nat.zero_le _, rfl, by rw [H0.out], Below.refl _ _⟩
  case round =>
    obtain ⟨k, hk, rfl, rfl, hb⟩ := hrel
    by_cases h1 : k < m
    · obtain ⟨b, o, x, e8, hcx, hx⟩ := (h.below hb).at h1
      subst e8
      have i1 : (k : Int) < (m : Int) := by omega
      have hx' := HI.out x (List.mem_of_getElem? hx.out)
      obtain ⟨hx1, hx2⟩ := hx'
      have hst := HST.out k x hx.out
      have hlk := HLL.out k (by omega)
      have hpl := partT_len ⟨hx1, hx2⟩ (show k ≤ 1048576 by omega)
      generalize pT l k = A at *
      generalize hA' : pT l (k + 1) = A' at *
      have HA' := Lib.hid hA'
      clear hA'
      unfold stepT signT at hst
      by_cases hpos : 0 < x
      · rw [if_neg (by omega), if_neg (by omega)] at hst
        have hpw := fun w => powerSpec (w := w) (k := k) ⟨hx1, hx2⟩ (.inl hpos) (by omega)
        rw [if_neg (by omega), List.nil_append] at hpw
        have j1 := decide_eq_true hpos
        by_cases hAe : A = []
        · rw [if_pos hAe, List.nil_append, hAe, List.nil_append] at hst
          have j2 := bs_empty hAe
          have HP : Hid (partT x.natAbs k = A') := Lib.hid hst.symm
          clear hst hAe
          go_wp2_with fail
          refine (hpw wr).mono ?_
          rintro e w2 ⟨rfl, b2⟩
          go_wp2_with fail
          go_roundw
          case rel => exact ⟨k + 1, by omega, by go_num, by rw [HP.out, ← HA'.out], Keeps.step hb b2⟩
          case measure => simp [intOf]; omega
        · rw [if_neg hAe] at hst
          have j2 := bs_ne hAe
          have HP : Hid (bs A ++ ⟨#[43]⟩ ++ bs (partT x.natAbs k) = bs A') := Lib.hid (by rw [hst, show (⟨#[43]⟩ : ByteArray) = bs [43] from rfl, bs_app, bs_app, List.append_assoc])
          have c0 : ¬ 9223372036854775807 < (bs A).size + (ByteArray.mk #[43]).size := by rw [show (ByteArray.mk #[43]).size = 1 from rfl, bs_size]; omega
          have c0' : ¬ 9223372036854775807 < (bs A).size + 1 := by rw [bs_size]; omega
          have c1 : ¬ 9223372036854775807 < (bs A ++ ⟨#[43]⟩).size + (bs (partT x.natAbs k)).size := by rw [show (⟨#[43]⟩ : ByteArray) = bs [43] from rfl, bs_app, bs_size, bs_size]; simp; omega
          clear hst hAe
          go_wp2_with fail
          refine (hpw wr).mono ?_
          rintro e w2 ⟨rfl, b2⟩
          go_wp2_with fail
          go_roundw
          case rel => exact ⟨k + 1, by omega, by go_num, by rw [HP.out, ← HA'.out], Keeps.step hb b2⟩
          case measure => simp [intOf]; omega
      · have j1 := decide_eq_false hpos
        by_cases hneg : x < 0
        · rw [if_neg (by omega), if_pos hneg] at hst
          have j2 := decide_eq_true hneg
          by_cases hmin : x = -9223372036854775808
          · have hpw := fun w => powerSpec (w := w) (k := k) ⟨hx1, hx2⟩ (.inr (by omega)) (by omega)
            rw [if_pos hneg, List.singleton_append] at hpw
            have HP : Hid (bs A ++ bs (45 :: partT x.natAbs k) = bs A') := Lib.hid (by rw [hst, bs_app]; rfl)
            have c1 : ¬ 9223372036854775807 < (bs A).size + (bs (45 :: partT x.natAbs k)).size := by rw [bs_size, bs_size]; simp; omega
            have hw : wrap64 (-x) < 0 := by rw [hmin]; unfold wrap64; omega
            have hw2 := decide_eq_true hw
            generalize partT x.natAbs k = PT at *
            clear hst hmin
            go_wp2_with fail
            refine (hpw wr).mono ?_
            rintro e w2 ⟨rfl, b2⟩
            go_wp2_with fail
            go_roundw
            case rel => exact ⟨k + 1, by omega, by go_num, by first | rw [HP.out, ← HA'.out] | (rw [← HA'.out, ← HP.out]; rfl), Keeps.step hb b2⟩
            case measure => simp [intOf]; omega
          · have hpw := fun w => powerSpec (w := w) (x := -x) (k := k) (by omega) (.inl (by omega)) (by omega)
            rw [if_neg (by omega), List.nil_append, Int.natAbs_neg] at hpw
            have HP : Hid (bs A ++ ⟨#[45]⟩ ++ bs (partT x.natAbs k) = bs A') := Lib.hid (by rw [hst, show (⟨#[45]⟩ : ByteArray) = bs [45] from rfl, bs_app, bs_app, List.append_assoc])
            have c0 : ¬ 9223372036854775807 < (bs A).size + (ByteArray.mk #[45]).size := by rw [show (ByteArray.mk #[45]).size = 1 from rfl, bs_size]; omega
            have c0' : ¬ 9223372036854775807 < (bs A).size + 1 := by rw [bs_size]; omega
            have c1 : ¬ 9223372036854775807 < (bs A ++ ⟨#[45]⟩).size + (bs (partT x.natAbs k)).size := by rw [show (⟨#[45]⟩ : ByteArray) = bs [45] from rfl, bs_app, bs_size, bs_size]; simp; omega
            have hx3 : -9223372036854775807 ≤ x := by omega
            have hw : ¬ -x < 0 := by omega
            have hw2 := decide_eq_false hw
            have hw3 : wrap64 (-x) = -x := by unfold wrap64; omega
            generalize partT x.natAbs k = PT at *
            clear hst hmin
            go_wp2_with fail
            refine (hpw wr).mono ?_
            rintro e w2 ⟨rfl, b2⟩
            go_wp2_with fail
            go_roundw
            case rel => exact ⟨k + 1, by omega, by go_num, by rw [HP.out, ← HA'.out], Keeps.step hb b2⟩
            case measure => simp [intOf]; omega
        · rw [if_pos (by omega)] at hst
          have j2 := decide_eq_false hneg
          have HP : Hid (A = A') := Lib.hid hst.symm
          clear hst
          go_wp2_with fail
          go_roundw
          case rel => exact ⟨k + 1, by omega, by go_num, by rw [HP.out, ← HA'.out], hb⟩
          case measure => simp [intOf]; omega
    · have hkm : k = m := by omega
      have i1 : ¬ (k : Int) < (m : Int) := by omega
      rw [hkm]
      clear hkm
      by_cases hz : pT l m = []
      · have HR := Lib.hid (HF.out.1 hz)
        have j2 := bs_empty hz
        clear hz
        go_wp2_with fail
        go_ret
        exact ⟨by rw [HR.out]; rfl, hb⟩
      · have HR := Lib.hid (HF.out.2 hz)
        have j2 := bs_ne hz
        clear hz
        go_wp2_with fail
        go_ret
        exact ⟨by rw [HR.out]; rfl, hb⟩
end Go.Proofs.YteglcjembimegaaDoor
