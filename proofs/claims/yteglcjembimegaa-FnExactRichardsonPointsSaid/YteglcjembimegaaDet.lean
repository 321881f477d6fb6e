/- Determinants by the reference's text. Condition: square matrices of at most four rows, numbers up to 2000. -/
import Derived.Test.YteglcjembimegaaOwnR
import Derived.Test.YteglcjembimegaaFinL
import Derived.Test.YteglcjembimegaaSums
import Derived.Test.YteglcjembimegaaCartan
import Derived.Deep.RegionHeld3
namespace Go.Proofs.Yteglcjembimegaa
open Go.RowKit
set_option maxRecDepth 20000

set_option maxHeartbeats 1000000 in
theorem withoutSpec {S : Nat → Prop} {u : Value} {m : List (List Int)} {w : World} {n : Nat} (h : RII S w u m) (hs : Fin.Sqr m (n + 1)) (hn : n ≤ 3) (c : Nat) :
    Calls Try.prog 108 #[u, .int .i64 c] w fun e w' => ∃ r, e = .returned r ∧ FR (New w w') w' r (Fin.without m c) ∧ Below w.heap.size w w' := by
  obtain ⟨a, cap, rfl⟩ := h.form
  have HROW := Lib.hid hs.row
  have HL := Lib.hid hs.len
  rw [hs.len] at h ⊢
  have HR : Hid (((m.drop 1).take n).map (Fin.cut c) = Fin.without m c) := Lib.hid (by rw [List.take_of_length_le (by have := hs.len; simp; omega)]; rfl)
  have HR0 : Hid (((m.drop 1).take 0).map (Fin.cut c) = []) := Lib.hid (by simp)
  clear hs
  go_enter Try.func108, Try.ntmps108
  go_wp2_with fail
  obtain ⟨w1, hw1⟩ : ∃ w1, w1 = w.alloc (.cells #[] 23) := ⟨_, rfl⟩
  obtain ⟨f1, b1⟩ := FR.empty_of (Below.refl _ w) hw1
  rw [← hw1]
  clear hw1
  rw [← HR0.out] at f1
  go_loopw [5, 6] (fun z j wr => ∃ (k : Nat), k ≤ n ∧ j = .int .i64 ((k : Int) + 1) ∧ FR (New w wr) wr z (((m.drop 1).take k).map (Fin.cut c)) ∧ Below w.heap.size w wr) (fun _ j _ => n + 1 - (intOf j).toNat)
  case atStart => exact ⟨0, Nat.zero_le _, by go_num, f1, b1⟩
  case round =>
    obtain ⟨k, hk, rfl, hf, hb⟩ := hrel
    by_cases hlt : k < n
    · obtain ⟨b, o, r, l, rfl, hc, hr, hl⟩ := (h.below hb).at (j := k + 1) (by omega)
      obtain ⟨ar, cr, rfl⟩ := hr.form
      have hln : l.length = n + 1 := HROW.out l (List.mem_of_getElem? hl.out)
      rw [hln] at hr hc
      have HST := Lib.hid (Fin.without_step (j := c) hl.out)
      have HC0 : Hid (Fin.cut c (l.take 0) = []) := Lib.hid (by simp [Fin.cut])
      have HC1 : Hid (Fin.cut c (l.take (n + 1)) = Fin.cut c l) := Lib.hid (by rw [← hln]; simp)
      have HCL : Hid (∀ q, q ≤ n + 1 → (Fin.cut c (l.take q)).length ≤ q) := Lib.hid (fun q hq => by simp [Fin.cut]; omega)
      clear hln
      have i1 : (k : Int) + 1 < ((n + 1 : Nat) : Int) := by omega
      go_wp2_with fail
      obtain ⟨w2, hw2⟩ : ∃ w2, w2 = wr.alloc (.cells #[] 3) := ⟨_, rfl⟩
      obtain ⟨f2, b2⟩ := fresh_of (Below.refl _ wr) hw2
      rw [← hw2]
      clear hw2
      rw [← HC0.out] at f2
      generalize wr = wO at *
      go_loopw [7, 8] (fun yy j w' => ∃ (q : Nat) (y : Value), y = yy ∧ q ≤ n + 1 ∧ j = .int .i64 q ∧ FI (New wO w') w' y (Fin.cut c (l.take q)) ∧ Below wO.heap.size wO w') (fun _ j _ => n + 1 - (intOf j).toNat)
      case atStart => exact ⟨0, _, rfl, Nat.zero_le _, rfl, f2, b2⟩
      case round =>
        obtain ⟨q, y, rfl, hq, rfl, hfy, hby⟩ := hrel
        by_cases hltq : q < n + 1
        · obtain ⟨b', o', x, rfl, hcx, hx⟩ := (hr.below hby).at hltq
          have hc' := (hby.cell (p := ⟨b, o + (k + 1), none⟩) (World.block_lt_of_cell? wO _ hc)).trans hc
          have HCS := Lib.hid (Fin.cut_step (j := c) hx.out)
          have hlen := HCL.out q hq
          have i2 : (q : Int) < ((n + 1 : Nat) : Int) := by omega
          by_cases hqc : q = c
          · have HCS2 : Hid (Fin.cut c (l.take (q + 1)) = Fin.cut c (l.take q)) := Lib.hid (by rw [HCS.out, if_pos hqc])
            have e1 : ((q : Int) != (c : Int)) = false := by simp; omega
            clear hqc
            go_wp2_with fail
            go_roundw
            case rel => exact ⟨q + 1, _, rfl, by omega, by go_num, by rw [HCS2.out]; exact hfy, hby⟩
            case measure => simp [intOf]; omega
          · have HCS2 : Hid (Fin.cut c (l.take (q + 1)) = Fin.cut c (l.take q) ++ [x]) := Lib.hid (by rw [HCS.out, if_neg hqc])
            have e1 : ((q : Int) != (c : Int)) = true := by simp; omega
            clear hqc
            have bb : ∀ wr : World, Below wr.heap.size wr (wr.alloc (.cells #[.int .i64 x] 3)) := fun wr => (Below.refl wr.heap.size wr).alloc (Nat.le_refl _) _
            go_wp2_with (at_builtin; go_must (refine wpList_app (W := wO) rfl _ _ rfl rfl (hfy.grow (bb _)) (Keeps.step hby (bb _)) rfl (RI.one _ x) ?_ ?_))
            · simp; omega
            · intro v' w3 f3 b3 hg3
              go_wp2_with fail
              go_roundw
              case rel => exact ⟨q + 1, _, rfl, by omega, by go_num, by rw [HCS2.out]; exact f3, b3⟩
              case measure => simp [intOf]; omega
        · have hqn : q = n + 1 := by omega
          subst hqn
          rw [HC1.out] at hfy
          obtain ⟨ay, cy, rfl⟩ := hfy.form
          generalize (Fin.cut c l).length = ly at *
          have hf2 := hf.grow hby
          have hb2 := Keeps.step hb hby
          have hs0 : w.heap.size ≤ wO.heap.size := hb.size
          have hy : RI (New w wr) wr (.slice ay ly cy) (Fin.cut c l) := hfy.reads.mono (fun b hb' => ⟨Nat.le_trans hs0 hb'.1, hb'.2⟩)
          have bb : Below wr.heap.size wr (wr.alloc (.cells #[.slice ay ly cy] 23)) := (Below.refl _ _).alloc (Nat.le_refl _) _
          have hcn : (wr.alloc (.cells #[.slice ay ly cy] 23)).cell? ⟨wr.heap.size, 0, none⟩ = some (.slice ay ly cy) := by go_simp
          have hln : (((m.drop 1).take k).map (Fin.cut c)).length + 1 ≤ 67108864 := by simp; omega
          generalize ((m.drop 1).take k).map (Fin.cut c) = acc at *
          go_wp2_with (at_builtin; go_must (refine wpList_appR (W := w) rfl _ _ rfl rfl (hf2.grow bb) (Keeps.step hb2 bb) rfl hcn ((hy.below bb).mono (fun b hb' => ⟨hb'.1, Nat.lt_of_lt_of_le hb'.2 bb.size⟩)) hln ?_))
          intro v' w4 f4 b4 _
          go_wp2_with fail
          go_roundw
          case rel => exact ⟨k + 1, by omega, by go_num, by rw [HST.out]; exact f4, b4⟩
          case measure => simp [intOf]; omega
    · have hkn : k = n := by omega
      subst hkn
      go_wp2_with fail
      go_ret
      exact ⟨_, rfl, by rw [← HR.out]; exact hf, hb⟩
end Go.Proofs.Yteglcjembimegaa
