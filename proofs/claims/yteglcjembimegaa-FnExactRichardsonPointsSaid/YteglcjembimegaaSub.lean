/- Matrices of some points. Condition: a square matrix of at most four rows, its points in order. -/
import Derived.Test.YteglcjembimegaaSets
import Derived.Test.YteglcjembimegaaCartan
import Derived.Test.YteglcjembimegaaReflect
namespace Go.Proofs.Yteglcjembimegaa
open Go.RowKit
set_option maxRecDepth 20000

def rowL (c : List (List Int)) (i : Int) (l : List Int) : List Int := l.map fun j => ent c i.toNat j.toNat
def subL (c : List (List Int)) (l : List Int) : List (List Int) := l.map fun i => rowL c i l
theorem subL_bits (c : List (List Int)) (n k : Nat) : subL c (bitsI n k) = Fin.sub c (Fin.bits n k) := by
  simp only [subL, rowL, bitsI, Fin.sub, List.map_map]
  refine List.map_congr_left fun i _ => ?_
  simp only [Function.comp_def]
  refine List.map_congr_left fun j _ => ?_
  simp only [Int.toNat_natCast]
  rfl
theorem rowL_step {c : List (List Int)} {i : Int} {l : List Int} {k : Nat} {x : Int} (h : l[k]? = some x) : rowL c i (l.take (k + 1)) = rowL c i (l.take k) ++ [ent c i.toNat x.toNat] := by
  rw [take_step h]; simp [rowL]
theorem subL_step {c : List (List Int)} {l : List Int} {k : Nat} {x : Int} (h : l[k]? = some x) : (l.take (k + 1)).map (fun i => rowL c i l) = (l.take k).map (fun i => rowL c i l) ++ [rowL c x l] := by
  rw [take_step h]; simp

/-- All numbers are points. -/
def Pts (n : Nat) (l : List Int) : Prop := ∀ (j : Nat) (x : Int), l[j]? = some x → ∃ i : Nat, x = (i : Int) ∧ i < n

set_option maxHeartbeats 1000000 in
theorem pickedImpl {S S' : Nat → Prop} {u v : Value} {c : List (List Int)} {l : List Int} {w : World} {n : Nat} (h : RII S w u c) (h' : RI S' w v l) (hsq : Sq c n) (hp : Pts n l) (_ : n ≤ 4) (hl : l.length ≤ 16777216) :
    Calls Try.prog 153 #[u, v] w fun e w' => ∃ r, e = .returned r ∧ FR (New w w') w' r (subL c l) ∧ Below w.heap.size w w' := by
  obtain ⟨a, cap, rfl⟩ := h.form
  obtain ⟨a', cap', rfl⟩ := h'.form
  rw [hsq.len] at h ⊢
  have HS := Lib.hid hsq
  have HP := Lib.hid hp
  clear hsq hp
  obtain ⟨A, hA⟩ : ∃ A : Nat → List (List Int), ∀ k, A k = (l.take k).map (fun i => rowL c i l) := ⟨_, fun _ => rfl⟩
  have HA0 : Hid (A 0 = []) := Lib.hid (by rw [hA]; simp)
  have HAn : Hid (A l.length = subL c l) := Lib.hid (by rw [hA]; simp [subL])
  have HAS : Hid (∀ k x, l[k]? = some x → A (k + 1) = A k ++ [rowL c x l]) := Lib.hid (fun k x hx => by rw [hA, hA]; exact subL_step hx)
  have HAL : Hid (∀ k, (A k).length ≤ k) := Lib.hid (fun k => by rw [hA]; simp; omega)
  clear hA
  have HB0 : Hid (∀ x, rowL c x (l.take 0) = []) := Lib.hid (fun x => by simp [rowL])
  have HBn : Hid (∀ x, rowL c x (l.take l.length) = rowL c x l) := Lib.hid (fun x => by simp)
  have HBL : Hid (∀ x k, (rowL c x (l.take k)).length ≤ k) := Lib.hid (fun x k => by simp [rowL]; omega)
  generalize hm : l.length = m at *
  have HM := Lib.hid hm
  clear hm
  go_enter Try.func153, Try.ntmps153
  go_wp2_with fail
  obtain ⟨w1, hw1⟩ : ∃ w1, w1 = w.alloc (.cells #[] 23) := ⟨_, rfl⟩
  obtain ⟨f1, b1⟩ := FR.empty_of (Below.refl _ w) hw1
  rw [← hw1]
  clear hw1
  rw [← HA0.out] at f1
  go_loopw [5, 14] (fun zz j wr => ∃ (k : Nat) (z : Value), z = zz ∧ k ≤ m ∧ j = .int .i64 k ∧ FR (New w wr) wr z (A k) ∧ Below w.heap.size w wr) (fun _ j _ => m - (intOf j).toNat)
  case atStart => exact ⟨0, _, rfl, Nat.zero_le _, rfl, f1, b1⟩
  case round =>
    obtain ⟨k, z, rfl, hk, rfl, hf, hb⟩ := hrel
    have hal := HAL.out k
    by_cases hlt : k < m
    · obtain ⟨b, o, x, rfl, hc, hx⟩ := (h'.below hb).at hlt
      obtain ⟨i, rfl, hi⟩ := HP.out k x hx.out
      have HST := Lib.hid (HAS.out k _ hx.out)
      have hb0 := HB0.out (i : Int)
      obtain ⟨b2, o2, r, r0, rfl, hcr, hr, hr0⟩ := (h.below hb).at hi
      obtain ⟨ar, cr, rfl⟩ := hr.form
      have hln : r0.length = n := HS.out.row i r0 hr0.out
      rw [hln] at hr hcr
      clear hln
      generalize A k = Ak at *
      have i1 : (k : Int) < (m : Int) := by omega
      go_wp2_with fail
      obtain ⟨w2, hw2⟩ : ∃ w2, w2 = wr.alloc (.cells #[] 3) := ⟨_, rfl⟩
      obtain ⟨f2, b2'⟩ := fresh_of (Below.refl _ wr) hw2
      rw [← hw2]
      clear hw2
      rw [← hb0] at f2
      clear hb0
      generalize wr = wO at *
      go_loopw [8, 21] (fun yy j wr => ∃ (q : Nat) (y : Value), y = yy ∧ q ≤ m ∧ j = .int .i64 q ∧ FI (New wO wr) wr y (rowL c i (l.take q)) ∧ Below wO.heap.size wO wr) (fun _ j _ => m - (intOf j).toNat)
      case atStart => exact ⟨0, _, rfl, Nat.zero_le _, rfl, f2, b2'⟩
      case round =>
        obtain ⟨q, y, rfl, hq, rfl, hfy, hby⟩ := hrel
        by_cases hltq : q < m
        · obtain ⟨b3, o3, x3, e3, hc3, hx3⟩ := (h'.below (Keeps.step hb hby)).at hltq
          simp only [Option.some.injEq, Addr.mk.injEq, and_true] at e3
          obtain ⟨rfl, rfl⟩ := e3
          obtain ⟨j, rfl, hj⟩ := HP.out q x3 hx3.out
          have hcr' := (hby.cell (p := ⟨b2, o2 + i, none⟩) (World.block_lt_of_cell? wO _ hcr)).trans hcr
          obtain ⟨b4, o4, y4, rfl, hc4, hx4⟩ := (hr.below hby).at hj
          have HS2 : Hid (rowL c i (l.take (q + 1)) = rowL c i (l.take q) ++ [y4]) := Lib.hid (by rw [rowL_step hx3.out]; simp only [Int.toNat_natCast]; rw [ent_at hr0.out hx4.out])
          have hbl := HBL.out (i : Int) q
          have i2 : (q : Int) < (m : Int) := by omega
          generalize rowL c i (l.take q) = R at *
          have bb : ∀ wr : World, Below wr.heap.size wr (wr.alloc (.cells #[.int .i64 y4] 3)) := fun wr => (Below.refl wr.heap.size wr).alloc (Nat.le_refl _) _
          go_wp2_with (at_builtin; go_must (refine wpList_app (W := wO) rfl _ _ rfl rfl (hfy.grow (bb _)) (Keeps.step hby (bb _)) rfl (RI.one _ y4) ?_ ?_))
          · simp; omega
          · intro v' w3 f3 b3 hg3
            go_wp2_with fail
            go_roundw
            case rel => exact ⟨q + 1, _, rfl, by omega, by go_num, by rw [HS2.out]; exact f3, b3⟩
            case measure => simp [intOf]; omega
        · have hqm : q = m := by omega
          have hbn := HBn.out (i : Int)
          rw [hqm, hbn] at hfy
          have hf2 := hf.grow hby
          have hb2 := Keeps.step hb hby
          have hs0 : w.heap.size ≤ wO.heap.size := hb.size
          obtain ⟨ay, cy, rfl⟩ := hfy.form
          clear hbn hqm
          generalize rowL c i l = R at *
          generalize R.length = ly at *
          have hy : RI (New w wr) wr (.slice ay ly cy) R := hfy.reads.mono (fun b hb' => ⟨Nat.le_trans hs0 hb'.1, hb'.2⟩)
          have bb : Below wr.heap.size wr (wr.alloc (.cells #[.slice ay ly cy] 23)) := (Below.refl _ _).alloc (Nat.le_refl _) _
          have hcn : (wr.alloc (.cells #[.slice ay ly cy] 23)).cell? ⟨wr.heap.size, 0, none⟩ = some (.slice ay ly cy) := by go_simp
          have hln : Ak.length + 1 ≤ 67108864 := by omega
          have i2 : ¬ (q : Int) < (m : Int) := by omega
          go_wp2_with (at_builtin; go_must (refine wpList_appR (W := w) rfl _ _ rfl rfl (hf2.grow bb) (Keeps.step hb2 bb) rfl hcn ((hy.below bb).mono (fun b hb' => ⟨hb'.1, Nat.lt_of_lt_of_le hb'.2 bb.size⟩)) hln ?_))
          intro v' w4 f4 b4 _
          go_wp2_with fail
          go_roundw
          case rel => exact ⟨k + 1, _, rfl, by omega, by go_num, by rw [HST.out]; exact f4, b4⟩
          case measure => simp [intOf]; omega
    · have hkm : k = m := by omega
      have HF : Hid (A k = subL c l) := Lib.hid (by rw [hkm, HAn.out])
      have i1 : ¬ (k : Int) < (m : Int) := by omega
      clear hkm
      go_wp2_with fail
      go_ret
      exact ⟨_, rfl, by rw [← HF.out]; exact hf, hb⟩
end Go.Proofs.Yteglcjembimegaa
