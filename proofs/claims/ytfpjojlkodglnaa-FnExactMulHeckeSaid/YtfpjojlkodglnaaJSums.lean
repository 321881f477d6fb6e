/- Sums of weights, and what words do to them. Condition: sizes up to 2^24; a square matrix, letters that are rows'. -/
import Derived.Test.YtfpjojlkodglnaaJReflect
namespace Go.Proofs.Ytfpjojlkodglnaa
open Go.RowKit
set_option maxRecDepth 20000

def addW : List Int → List Int → List Int
  | x :: xs, y :: ys => wrap64 (x + y) :: addW xs ys
  | _, _ => []
def addK (k : Int) : List Int → List Int → List Int
  | x :: xs, y :: ys => wrap64 (x + wrap64 (k * y)) :: addK k xs ys
  | _, _ => []
def rho (c : List (List Int)) : List Int := if isC c then List.replicate c.length 1 else []

theorem addW_take : ∀ (l l' : List Int) (j : Nat) (x y : Int), l[j]? = some x → l'[j]? = some y → addW (l.take (j + 1)) (l'.take (j + 1)) = addW (l.take j) (l'.take j) ++ [wrap64 (x + y)]
  | [], _, _, _, _, h, _ => by simp at h
  | _ :: _, [], _, _, _, _, h => by simp at h
  | z :: zs, t :: ts, 0, x, y, h, h' => by simp at h h'; subst h; subst h'; simp [addW]
  | z :: zs, t :: ts, j + 1, x, y, h, h' => by
    simp at h h'
    have := addW_take zs ts j x y h h'
    simp only [List.take_succ_cons, addW, List.cons_append]
    rw [this]
theorem addW_length : ∀ (l l' : List Int), (addW l l').length = min l.length l'.length
  | [], _ => by simp [addW]
  | _ :: _, [] => by simp [addW]
  | x :: xs, y :: ys => by simp [addW, addW_length xs ys]
theorem addW_cut : ∀ (l l' : List Int) (k : Nat), (l.length ≤ k ∨ l'.length ≤ k) → addW (l.take k) (l'.take k) = addW l l'
  | [], l', k, _ => by simp [addW]
  | x :: xs, [], k, _ => by cases k <;> simp [addW]
  | x :: xs, y :: ys, 0, h => by simp at h
  | x :: xs, y :: ys, k + 1, h => by
    simp only [List.take_succ_cons, addW]
    rw [addW_cut xs ys k (by simpa using h)]
theorem addK_take (q : Int) : ∀ (l l' : List Int) (j : Nat) (x y : Int), l[j]? = some x → l'[j]? = some y → addK q (l.take (j + 1)) (l'.take (j + 1)) = addK q (l.take j) (l'.take j) ++ [wrap64 (x + wrap64 (q * y))]
  | [], _, _, _, _, h, _ => by simp at h
  | _ :: _, [], _, _, _, _, h => by simp at h
  | z :: zs, t :: ts, 0, x, y, h, h' => by simp at h h'; subst h; subst h'; simp [addK]
  | z :: zs, t :: ts, j + 1, x, y, h, h' => by
    simp at h h'
    have := addK_take q zs ts j x y h h'
    simp only [List.take_succ_cons, addK, List.cons_append]
    rw [this]
theorem addK_length (q : Int) : ∀ (l l' : List Int), (addK q l l').length = min l.length l'.length
  | [], _ => by simp [addK]
  | _ :: _, [] => by simp [addK]
  | x :: xs, y :: ys => by simp [addK, addK_length q xs ys]
theorem addK_cut (q : Int) : ∀ (l l' : List Int) (k : Nat), (l.length ≤ k ∨ l'.length ≤ k) → addK q (l.take k) (l'.take k) = addK q l l'
  | [], l', k, _ => by simp [addK]
  | x :: xs, [], k, _ => by cases k <;> simp [addK]
  | x :: xs, y :: ys, 0, h => by simp at h
  | x :: xs, y :: ys, k + 1, h => by
    simp only [List.take_succ_cons, addK]
    rw [addK_cut q xs ys k (by simpa using h)]

theorem fresh_of {W w w1 : World} (hw : Below W.heap.size W w) (h : w1 = w.alloc (.cells #[] 3)) : FI (New W w1) w1 (.slice (some ⟨w.heap.size, 0, none⟩) 0 0) [] ∧ Below W.heap.size W w1 := by
  subst h
  refine ⟨(FI.of_row (w := w) (World.ownsRow_lit (base := w.heap.size) (e := 3) (size := 1) w #[] 0 (Nat.le_refl _) (by unfold maxLen; omega) rfl) (Nat.le_refl _) rfl rfl).mono (fun b hb => ⟨Nat.le_trans hw.size hb.1, hb.2⟩), hw.alloc hw.size _⟩

end Go.Proofs.Ytfpjojlkodglnaa
