/- Reflections of weights, by the program and by the reference. Condition: the matrix is square, the weight has one number a row, the letter is a row's. -/
import Derived.Test.YtkgjecabigdnoaaJWordOf
import Derived.Test.YtkgjecabigdnoaaJApp
import Derived.StillTailTactics
import Derived.Deep.RegionHeld3
namespace Go.Proofs.Ytkgjecabigdnoaa
open Go.RowKit
set_option maxRecDepth 20000

def reflL (c : List (List Int)) (i : Nat) (x : Int) : List Int → Nat → List Int
  | [], _ => []
  | y :: ys, k => wrap64 (y - wrap64 (x * ent c k i)) :: reflL c i x ys (k + 1)
def num (v : List Int) (i : Nat) : Int := v[i]?.getD 0
def refl (c : List (List Int)) (i : Nat) (v : List Int) : List Int := reflL c i (num v i) v 0

/-- A square matrix of n rows. -/
structure Sq (c : List (List Int)) (n : Nat) : Prop where
  len : c.length = n
  row : ∀ (k : Nat) (l : List Int), c[k]? = some l → l.length = n

theorem CartanP.sq {c : List (List Int)} (h : CartanP c) : Sq c c.length := ⟨rfl, fun _ l hl => h.row l (List.mem_of_getElem? hl)⟩

theorem reflL_length (c : List (List Int)) (i : Nat) (x : Int) : ∀ (l : List Int) (k : Nat), (reflL c i x l k).length = l.length
  | [], _ => rfl
  | y :: ys, k => by simp [reflL, reflL_length c i x ys (k + 1)]
theorem refl_length (c : List (List Int)) (i : Nat) (l : List Int) : (refl c i l).length = l.length := reflL_length c i _ l 0

theorem reflL_take (c : List (List Int)) (i : Nat) (x : Int) : ∀ (l : List Int) (k j : Nat) (y : Int), l[j]? = some y → reflL c i x (l.take (j + 1)) k = reflL c i x (l.take j) k ++ [wrap64 (y - wrap64 (x * ent c (k + j) i))]
  | [], _, _, _, h => by simp at h
  | z :: zs, k, 0, y, h => by simp at h; subst h; simp [reflL]
  | z :: zs, k, j + 1, y, h => by
    simp at h
    have := reflL_take c i x zs (k + 1) j y h
    simp only [List.take_succ_cons, reflL, List.cons_append]
    rw [this, show k + 1 + j = k + (j + 1) by omega]

theorem num_at {v : List Int} {i : Nat} {x : Int} (h : v[i]? = some x) : num v i = x := by simp [num, h]

set_option maxHeartbeats 1000000 in
theorem reflectSpec {S S' : Nat → Prop} {u v : Value} {c : List (List Int)} {l : List Int} {w : World} {n : Nat} (h : RII S w u c) (h' : RI S' w v l) (i : Nat) (hi : i < n) (hsq : Sq c n) (hln : l.length = n) (hn0 : n ≤ 16777216) :
    Calls Try.prog 45 #[u, .int .i64 i, v] w fun e w' => ∃ r, e = .returned r ∧ FI (New w w') w' r (refl c i l) ∧ Below w.heap.size w w' := by
  obtain ⟨a, cap, rfl⟩ := h.form
  obtain ⟨a', cap', rfl⟩ := h'.form
  have H := Lib.hid hln
  have HS := Lib.hid hsq
  have R0 : Hid (refl c i l = reflL c i (num l i) l 0) := Lib.hid rfl
  generalize refl c i l = res at *
  rw [hsq.len] at h ⊢
  rw [hln] at h' ⊢
  clear hln hsq
  go_enter Try.func45, Try.ntmps45
  go_wp2_with fail
  obtain ⟨w1, hw1⟩ : ∃ w1, w1 = w.alloc (.cells #[] 3) := ⟨_, rfl⟩
  have b1 : Below w.heap.size w w1 := by rw [hw1]; exact (Below.refl _ w).alloc (Nat.le_refl _) _
  have f1 : FI (New w w1) w1 (.slice (some ⟨w.heap.size, 0, none⟩) 0 0) [] := by rw [hw1]; exact FI.of_row (World.ownsRow_lit (base := w.heap.size) (e := 3) (size := 1) w #[] 0 (Nat.le_refl _) (by unfold maxLen; omega) rfl) (Nat.le_refl _) rfl rfl
  rw [← hw1]
  clear hw1
  go_loopw [7, 8] (fun q j wr => ∃ (k : Nat), k ≤ n ∧ j = .int .i64 k ∧ FI (New w wr) wr q (reflL c i (num l i) (l.take k) 0) ∧ Below w.heap.size w wr) (fun _ j _ => n - (intOf j).toNat)
  case atStart => exact ⟨0, Nat.zero_le _, rfl, by simpa [reflL] using f1, b1⟩
  case round =>
    obtain ⟨k, hk, rfl, hf, hb⟩ := hrel
    by_cases hlt : k < n
    · obtain ⟨b, o, y, rfl, hc0, hy⟩ := h'.at hlt
      obtain ⟨b2, o2, x, e2, hcx0, hx⟩ := h'.at hi
      simp only [Option.some.injEq, Addr.mk.injEq, and_true] at e2
      obtain ⟨rfl, rfl⟩ := e2
      obtain ⟨b3, o3, r3, l3, rfl, hcr0, hr3, hl3⟩ := h.at hlt
      obtain ⟨a4, c4, rfl⟩ := hr3.form
      have hl3n := HS.out.row k l3 hl3.out
      rw [hl3n] at hcr0 hr3
      clear hl3n
      obtain ⟨b4, o4, z, rfl, hcz0, hz⟩ := hr3.at hi
      have l1 := World.block_lt_of_cell? w _ hc0
      have l3' := World.block_lt_of_cell? w _ hcr0
      have l4 := World.block_lt_of_cell? w _ hcz0
      have hc := (hb.cell l1).trans hc0
      have hcx := (hb.cell (p := ⟨b, o + i, none⟩) l1).trans hcx0
      have hcr := (hb.cell l3').trans hcr0
      have hcz := (hb.cell l4).trans hcz0
      have hF := Lib.hid (fun (k : Nat) hk => (hf.2 k hk).1)
      have i1 : (k : Int) < (n : Int) := by omega
      have i2 : (i : Int) < (n : Int) := by omega
      have hst : Hid (reflL c i (num l i) (l.take (k + 1)) 0 = reflL c i (num l i) (l.take k) 0 ++ [wrap64 (y - wrap64 (x * z))]) := by
        refine Lib.hid ?_
        rw [reflL_take c i _ l 0 k y hy.out, num_at hx.out, Nat.zero_add, ent_at hl3.out hz.out]
      have hlen : (reflL c i (num l i) (l.take k) 0).length ≤ k := by rw [reflL_length]; simp; omega
      generalize reflL c i (num l i) (l.take k) 0 = acc at *
      clear h h' hr3 hc0 hcx0 hcr0 hcz0
      have bbd : Below wr.heap.size wr (wr.alloc (.cells #[.int .i64 (IntKind.i64.wrap (y - IntKind.i64.wrap (x * z)))] 3)).drew := ((Below.refl _ _).alloc (Nat.le_refl _) _).drew
      have hcn : (wr.alloc (.cells #[.int .i64 (IntKind.i64.wrap (y - IntKind.i64.wrap (x * z)))] 3)).drew.cell? ⟨wr.heap.size, 0, none⟩ = some (.int .i64 (IntKind.i64.wrap (y - IntKind.i64.wrap (x * z)))) := by go_simp
      have hfn := hf.grow bbd
      have hbn := Keeps.step hb bbd
      have hln : acc.length + 1 ≤ 67108864 := by omega
      go_wp2_with fail
      go_region_held3 (fun w' => w'.cell? ⟨b, o + k, none⟩ = some (.int .i64 y) ∧ w'.cell? ⟨b, o + i, none⟩ = some (.int .i64 x) ∧ w'.cell? ⟨b3, o3 + k, none⟩ = some (.slice (some ⟨b4, o4, none⟩) n c4) ∧ w'.cell? ⟨b4, o4 + i, none⟩ = some (.int .i64 z)) (first | go_keep | (go_split_ands; exact ⟨cell_grown hgrow (by assumption) l1 hF.out, cell_grown hgrow (by assumption) l1 hF.out, cell_grown hgrow (by assumption) l3' hF.out, cell_grown hgrow (by assumption) l4 hF.out⟩)) ((refine step_app1 (W := w) (by rfl) _ _ (by rfl) (by rfl) hfn hbn (by rfl) hcn hln ?_; intro v' w3 f3 b5 hgrow))
      go_wp2_with fail
      go_roundw
      case rel => exact ⟨k + 1, by omega, by go_num, by rw [hst.out, ← IntWalk.i64_left, ← IntWalk.i64_left]; exact f3, b5⟩
      case measure => simp [intOf]; omega
    · have hkn : k = n := by omega
      subst hkn
      go_wp2_with fail
      go_ret
      exact ⟨_, rfl, by rw [R0.out]; rw [List.take_of_length_le (by have := H.out; omega)] at hf; exact hf, hb⟩
end Go.Proofs.Ytkgjecabigdnoaa
