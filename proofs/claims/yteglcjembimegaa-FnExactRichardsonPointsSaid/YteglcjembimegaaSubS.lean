/- Matrices of sets of points, by the reference. Condition: a Cartan matrix, an ascending set of its points. -/
import Derived.Test.YteglcjembimegaaSub
namespace Go.Proofs.Yteglcjembimegaa
open Go.RowKit
set_option maxRecDepth 20000

/-- Ascending. -/
def Asc (l : List Int) : Prop := ∀ (j : Nat) (x y : Int), l[j]? = some x → l[j + 1]? = some y → x < y

set_option maxHeartbeats 1000000 in
theorem setSpec {S S' : Nat → Prop} {u v : Value} {c : List (List Int)} {l : List Int} {w : World} (h : RII S w u c) (h' : RI S' w v l) (hc : CartanP c) (hl : total c ≤ 16777216) (hp : Pts c.length l) (ha : Asc l) (hl' : l.length ≤ 16777216) :
    Calls Try.prog 152 #[u, v] w fun e w' => e = .returned (.bool true) ∧ ∃ m, w' = w.drewN m := by
  have hC := Lib.hid (isC_iff.2 hc)
  have hn4 := hc.le
  obtain ⟨a, cap, rfl⟩ := h.form
  obtain ⟨a', cap', rfl⟩ := h'.form
  have HP := Lib.hid hp
  have HA := Lib.hid ha
  clear hp ha hc
  generalize hn : c.length = n at *
  have HN := Lib.hid hn
  clear hn
  generalize hm : l.length = m at *
  have HM := Lib.hid hm
  clear hm
  go_enter Try.func152, Try.ntmps152
  go_wp2_with fail
  go_loopw [5] (fun j wr => ∃ (k : Nat), k ≤ m ∧ j = .int .i64 k ∧ Hid (∃ d, wr = w.drewN d)) (fun j _ => m - (intOf j).toNat)
  case atStart => exact ⟨0, Nat.zero_le _, rfl, Lib.hid dr0⟩
  case round =>
    obtain ⟨k, hk, rfl, HW⟩ := hrel
    have hb : Below w.heap.size w wr := by obtain ⟨d, rfl⟩ := HW.out; exact below_drewN (Below.refl _ w) d
    by_cases hlt : k < m
    · obtain ⟨b, o, x, rfl, hcx, hx⟩ := (h'.below hb).at hlt
      obtain ⟨i, rfl, hi⟩ := HP.out k x hx.out
      have i1 : (k : Int) < (m : Int) := by omega
      have hw1 : IntKind.i64.wrap ((n : Int) - 1) = (n : Int) - 1 := IntWalk.i64_in _ (by omega)
      have HQ : Hid (∀ w' : World, Calls Try.prog 77 #[.int .i64 (i : Int), .int .i64 0, .int .i64 ((n : Int) - 1)] w' fun e w'' => e = .returned (.bool true) ∧ w'' = w') :=
        Lib.hid (fun w' => (l1In_any i 0 ((n : Int) - 1) w').mono fun e w'' ⟨h1, h2⟩ => ⟨by rw [h1, inR_yes (by omega)], h2.symm⟩)
      rcases k with _ | k
      · have e0 : decide ((0 : Int) < 0) = false := by decide
        rw [show (((0 : Nat) : Int)) = 0 from rfl]
        rw [Nat.add_zero] at hcx
        go_wp2_with fail
        go_quiet ((go_at_call 77; exact Calls.quiet_of_same (HQ.out _)))
        clear hw1
        go_wp2_with fail
        go_roundw
        case rel => exact ⟨1, by omega, by go_num, Lib.hid (by obtain ⟨d, rfl⟩ := HW.out; exact ⟨d + nq, by simp⟩)⟩
        case measure => simp [intOf]; omega
      · obtain ⟨b2, o2, y, e2, hcy, hy⟩ := (h'.below hb).at (j := k) (by omega)
        simp only [Option.some.injEq, Addr.mk.injEq, and_true] at e2
        obtain ⟨rfl, rfl⟩ := e2
        have hlt2 := HA.out k y i hy.out hx.out
        have e0 : decide ((0 : Int) < (k : Int) + 1) = true := decide_eq_true (by omega)
        have e1 : decide ((i : Int) ≤ y) = false := decide_eq_false (by omega)
        have j1 : IntKind.i64.wrap ((k : Int) + 1 - 1) = (k : Int) := (IntWalk.i64_in _ (by omega)).trans (by omega)
        have j2 : (0 : Int) ≤ (k : Int) := by omega
        have j3 : (k : Int) < (m : Int) := by omega
        have j4 : ((k : Int)).toNat = k := by omega
        go_wp2_with fail
        go_quiet ((go_at_call 77; exact Calls.quiet_of_same (HQ.out _)))
        clear hw1 j1
        go_wp2_with fail
        go_roundw
        case rel => exact ⟨k + 1 + 1, by omega, by go_num, Lib.hid (by obtain ⟨d, rfl⟩ := HW.out; exact ⟨d + nq, by simp⟩)⟩
        case measure => simp [intOf]; omega
    · have i1 : ¬ (k : Int) < (m : Int) := by omega
      have h2 := h.below hb
      go_wp2_with fail
      refine (isCartanSpec h2 hl).mono ?_
      rintro e w5 ⟨rfl, hw5⟩
      rw [hC.out]
      go_wp2_with fail
      go_ret
      refine ⟨rfl, ?_⟩
      obtain ⟨d, rfl⟩ := HW.out
      obtain ⟨d', rfl⟩ := hw5
      exact ⟨d + d', by simp⟩

set_option maxHeartbeats 2000000 in
theorem subCartanSpec {S S' : Nat → Prop} {u v : Value} {c : List (List Int)} {l : List Int} {w : World} (h : RII S w u c) (h' : RI S' w v l) (hc : CartanP c) (hl : total c ≤ 16777216) (hp : Pts c.length l) (ha : Asc l) (hl0 : 1 ≤ l.length) (hl' : l.length ≤ 16777216) :
    Calls Try.prog 144 #[u, v] w fun e w' => ∃ r, e = .returned (.tuple #[r, .bool true]) ∧ FR (New w w') w' r (subL c l) ∧ Below w.heap.size w w' := by
  have hn4 := hc.le
  obtain ⟨a, cap, rfl⟩ := h.form
  obtain ⟨a', cap', rfl⟩ := h'.form
  have HP := Lib.hid hp
  have HASC := Lib.hid ha
  have HS := Lib.hid hc.sq
  have HC := Lib.hid hc
  clear hp ha hc
  obtain ⟨A, hA⟩ : ∃ A : Nat → List (List Int), ∀ k, A k = (l.take k).map (fun i => rowL c i l) := ⟨_, fun _ => rfl⟩
  have HA0 : Hid (A 0 = []) := Lib.hid (by rw [hA]; simp)
  have HAn : Hid (A l.length = subL c l) := Lib.hid (by rw [hA]; simp [subL])
  have HAS : Hid (∀ k x, l[k]? = some x → A (k + 1) = A k ++ [rowL c x l]) := Lib.hid (fun k x hx => by rw [hA, hA]; exact subL_step hx)
  have HAL : Hid (∀ k, (A k).length ≤ k) := Lib.hid (fun k => by rw [hA]; simp; omega)
  clear hA
  have HB0 : Hid (∀ x, rowL c x (l.take 0) = []) := Lib.hid (fun x => by simp [rowL])
  have HBn : Hid (∀ x, rowL c x (l.take l.length) = rowL c x l) := Lib.hid (fun x => by simp)
  have HBL : Hid (∀ x k, (rowL c x (l.take k)).length ≤ k) := Lib.hid (fun x k => by simp [rowL]; omega)
  have HL' := Lib.hid hl'
  generalize hm : l.length = m at *
  have HM := Lib.hid hm
  clear hm
  have z0 : ((m : Int) == 0) = false := by simp; omega
  go_enter Try.func144, Try.ntmps144
  go_wp2_with fail
  obtain ⟨w1, hw1⟩ : ∃ w1, w1 = w.alloc (.cells #[] 23) := ⟨_, rfl⟩
  obtain ⟨f1, b1⟩ := FR.empty_of (Below.refl _ w) hw1
  rw [← hw1]
  clear hw1
  rw [← HA0.out] at f1
  refine (setSpec (h.below b1) (h'.below b1) HC.out hl HP.out HASC.out (by rw [HM.out]; exact HL'.out)).mono ?_
  rintro e w2 ⟨rfl, hw2⟩
  have b2 := below_quiet hw2
  clear hw2
  have f1 := f1.grow b2
  have b1 := Keeps.step b1 b2
  clear b2
  go_wp2_with fail
  generalize hn : c.length = n at *
  have HN := Lib.hid hn
  clear hn
  go_loopw [6, 7] (fun zz j wr => ∃ (k : Nat) (z : Value), z = zz ∧ k ≤ m ∧ j = .int .i64 k ∧ FR (New w wr) wr z (A k) ∧ Below w.heap.size w wr) (fun _ j _ => m - (intOf j).toNat)
  case atStart => exact ⟨0, _, rfl, Nat.zero_le _, rfl, f1, b1⟩
  case round =>
    obtain ⟨k, z, rfl, hk, rfl, hf, hb⟩ := hrel
    have hal := HAL.out k
    by_cases hlt : k < m
    · obtain ⟨b, o, x, rfl, hc0, hx⟩ := h'.at hlt
      obtain ⟨i, rfl, hi⟩ := HP.out k x hx.out
      have HST := Lib.hid (HAS.out k _ hx.out)
      have hb0 := HB0.out (i : Int)
      obtain ⟨b2, o2, r, r0, rfl, hcr0, hr, hr0⟩ := h.at hi
      obtain ⟨ar, cr, rfl⟩ := hr.form
      have hln : r0.length = n := HS.out.row i r0 hr0.out
      rw [hln] at hr hcr0
      clear hln
      generalize A k = Ak at *
      have i1 : (k : Int) < (m : Int) := by omega
      go_wp2_with fail
      obtain ⟨w2, hw2⟩ : ∃ w2, w2 = wr.alloc (.cells #[] 3) := ⟨_, rfl⟩
      obtain ⟨f2, b2'⟩ := fresh_of (Below.refl _ wr) hw2
      rw [← hw2]
      clear hw2
      rw [← hb0] at f2
      clear hb0
      generalize wr = wO at *
      go_loopw [8, 9] (fun yy j wr => ∃ (q : Nat) (y : Value), y = yy ∧ q ≤ m ∧ j = .int .i64 q ∧ FI (New wO wr) wr y (rowL c i (l.take q)) ∧ Below wO.heap.size wO wr) (fun _ j _ => m - (intOf j).toNat)
      case atStart => exact ⟨0, _, rfl, Nat.zero_le _, rfl, f2, b2'⟩
      case round =>
        obtain ⟨q, y, rfl, hq, rfl, hfy, hby⟩ := hrel
        have hb2 := Keeps.step hb hby
        by_cases hltq : q < m
        · obtain ⟨b3, o3, x3, e3, hc30, hx3⟩ := h'.at hltq
          simp only [Option.some.injEq, Addr.mk.injEq, and_true] at e3
          obtain ⟨rfl, rfl⟩ := e3
          obtain ⟨j, rfl, hj⟩ := HP.out q x3 hx3.out
          obtain ⟨b4, o4, y4, rfl, hc40, hx4⟩ := hr.at hj
          have l0 := World.block_lt_of_cell? w _ hc0
          have l2 := World.block_lt_of_cell? w _ hcr0
          have l4 := World.block_lt_of_cell? w _ hc40
          have hc := (hb2.cell (p := ⟨b, o + k, none⟩) l0).trans hc0
          have hc3 := (hb2.cell (p := ⟨b, o + q, none⟩) l0).trans hc30
          have hcr := (hb2.cell (p := ⟨b2, o2 + i, none⟩) l2).trans hcr0
          have hc4 := (hb2.cell (p := ⟨b4, o4 + j, none⟩) l4).trans hc40
          have hF := Lib.hid (fun (k : Nat) hk => Nat.le_trans hb.size (hfy.2 k hk).1)
          have HS2 : Hid (rowL c i (l.take (q + 1)) = rowL c i (l.take q) ++ [y4]) := Lib.hid (by rw [rowL_step hx3.out]; simp only [Int.toNat_natCast]; rw [ent_at hr0.out hx4.out])
          have hbl := HBL.out (i : Int) q
          have i2 : (q : Int) < (m : Int) := by omega
          have i3 : (i : Int) < (n : Int) := by omega
          have i4 : (j : Int) < (n : Int) := by omega
          generalize rowL c i (l.take q) = R at *
          have bbd : Below wr.heap.size wr (wr.alloc (.cells #[.int .i64 y4] 3)).drew := ((Below.refl _ _).alloc (Nat.le_refl _) _).drew
          have hcn : (wr.alloc (.cells #[.int .i64 y4] 3)).drew.cell? ⟨wr.heap.size, 0, none⟩ = some (.int .i64 y4) := by go_simp
          have hfn := hfy.grow bbd
          have hbn := Keeps.step hby bbd
          have hln2 : R.length + 1 ≤ 67108864 := by omega
          clear hc30 hc40
          go_wp2_with fail
          go_region_held3 (fun w' => w'.cell? ⟨b, o + k, none⟩ = some (.int .i64 i) ∧ w'.cell? ⟨b, o + q, none⟩ = some (.int .i64 j) ∧ w'.cell? ⟨b2, o2 + i, none⟩ = some (.slice (some ⟨b4, o4, none⟩) n cr) ∧ w'.cell? ⟨b4, o4 + j, none⟩ = some (.int .i64 y4)) (first | go_keep | (go_split_ands; exact ⟨cell_grown hgrow (by assumption) l0 hF.out, cell_grown hgrow (by assumption) l0 hF.out, cell_grown hgrow (by assumption) l2 hF.out, cell_grown hgrow (by assumption) l4 hF.out⟩)) ((refine step_app1 (W := wO) (by rfl) _ _ (by rfl) (by rfl) hfn hbn (by rfl) hcn hln2 ?_; intro v' w3 f3 b5 hgrow))
          clear hc hc3 hcr hc4
          go_wp2_with fail
          go_roundw
          case rel => exact ⟨q + 1, _, rfl, by omega, by go_num, by rw [HS2.out]; exact f3, b5⟩
          case measure => simp [intOf]; omega
        · have hqm : q = m := by omega
          have hbn := HBn.out (i : Int)
          rw [hqm, hbn] at hfy
          have hf2 := hf.grow hby
          have hs0 : w.heap.size ≤ wO.heap.size := hb.size
          obtain ⟨ay, cy, rfl⟩ := hfy.form
          clear hbn hqm
          generalize rowL c i l = R at *
          generalize R.length = ly at *
          have hy : RI (New w wr) wr (.slice ay ly cy) R := hfy.reads.mono (fun b hb' => ⟨Nat.le_trans hs0 hb'.1, hb'.2⟩)
          have bb : Below wr.heap.size wr (wr.alloc (.cells #[.slice ay ly cy] 23)) := (Below.refl _ _).alloc (Nat.le_refl _) _
          have hcn : (wr.alloc (.cells #[.slice ay ly cy] 23)).cell? ⟨wr.heap.size, 0, none⟩ = some (.slice ay ly cy) := by go_simp
          have hln : Ak.length + 1 ≤ 67108864 := by have := HL'.out; omega
          have i2 : ¬ (q : Int) < (m : Int) := by omega
          go_wp2_with (at_builtin; go_must (refine wpList_appR (W := w) rfl _ _ rfl rfl (hf2.grow bb) (Keeps.step hb2 bb) rfl hcn ((hy.below bb).mono (fun b hb' => ⟨hb'.1, Nat.lt_of_lt_of_le hb'.2 bb.size⟩)) hln ?_))
          intro v' w4 f4 b4 _
          go_wp2_with fail
          go_roundw
          case rel => exact ⟨k + 1, _, rfl, by omega, by go_num, by rw [HST.out]; exact f4, b4⟩
          case measure => simp [intOf]; omega
    · have hkm : k = m := by omega
      have HF : Hid (A k = subL c l) := Lib.hid (by rw [hkm, HAn.out])
      have i1 : ¬ (k : Int) < (m : Int) := by omega
      clear hkm
      go_wp2_with fail
      go_ret2
      exact ⟨_, rfl, by rw [← HF.out]; exact hf, hb⟩
end Go.Proofs.Yteglcjembimegaa
