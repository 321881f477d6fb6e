/- The greatest common divisor, by the program. -/
import Derived.Test.YtkgjecabigdnoaaJScale
namespace Go.Proofs.Ytkgjecabigdnoaa
open Go.RowKit
set_option maxRecDepth 20000

theorem tmod_small {x y : Int} (hy : y ≠ 0) (h : -1000000 ≤ y ∧ y ≤ 1000000) : (x.tmod y).natAbs < y.natAbs ∧ -1000000 ≤ x.tmod y ∧ x.tmod y ≤ 1000000 := by
  have := Int.natAbs_tmod x y
  have : x.natAbs % y.natAbs < y.natAbs := Nat.mod_lt _ (by omega)
  omega
theorem gcdF_step {f : Nat} {x y g : Int} (h : gcdF f x y = some g) (hy : y ≠ 0) : ∃ f', f = f' + 1 ∧ gcdF f' y (x.tmod y) = some g := by
  cases f with
  | zero => simp only [gcdF, if_neg hy] at h; cases h
  | succ f => exact ⟨f, rfl, by simpa only [gcdF, if_neg hy] using h⟩
theorem gcdF_end {f : Nat} {x g : Int} (h : gcdF f x 0 = some g) : x = g := by
  cases f <;> simpa [gcdF] using h

set_option maxHeartbeats 1000000 in
theorem gcdImpl {x y g : Int} {w : World} (h : gcdP x y = some g) :
    Calls Try.prog 40 #[.int .i64 x, .int .i64 y] w fun e w' => e = .returned (.int .i64 g) ∧ ∃ m, w' = w.drewN m := by
  unfold gcdP at h
  split at h
  case isFalse => cases h
  rename_i hxy
  obtain ⟨hx1, hx2, hy1, hy2⟩ := hxy
  have HG := Lib.hid h
  clear h
  have mixed : Try.prog.follows .mixedOrders = true := by kernel_rfl
  go_enter Try.func40, Try.ntmps40
  go_wp2_with fail
  go_loopw [0, 1] (fun aa bb wr => ∃ (f : Nat) (a b : Int), aa = .int .i64 a ∧ bb = .int .i64 b ∧ Hid (gcdF f a b = some g) ∧ (-1000000 ≤ b ∧ b ≤ 1000000) ∧ (-1000000 ≤ a ∧ a ≤ 1000000) ∧ ∃ m, wr = w.drewN m) (fun _ bb _ => (intOf bb).natAbs)
  case atStart => exact ⟨40, x, y, rfl, rfl, HG, ⟨hy1, hy2⟩, ⟨hx1, hx2⟩, 0, rfl⟩
  case round =>
    obtain ⟨f, a, b, rfl, rfl, HF, hb, ha, m, rfl⟩ := hrel
    by_cases h0 : b = 0
    · subst h0
      have hg := gcdF_end HF.out
      subst hg
      go_wp2_with fail
      go_ret
      exact ⟨rfl, m, rfl⟩
    · have f1 : (b != 0) = true := by simp [h0]
      have f2 : (b == 0) = false := by simp [h0]
      obtain ⟨f', _, hs⟩ := gcdF_step HF.out h0
      have HS := Lib.hid hs
      obtain ⟨t1, t2, t3⟩ := tmod_small (x := a) h0 hb
      have HT := Lib.hid t1
      clear hs t1
      go_wp2_with fail
      go_big_region_o
      go_wp2_with fail
      go_roundw
      case rel => exact ⟨f', _, _, rfl, rfl, HS, ⟨t2, t3⟩, hb, m + 1, rfl⟩
      case measure => simpa [intOf] using HT.out
end Go.Proofs.Ytkgjecabigdnoaa
