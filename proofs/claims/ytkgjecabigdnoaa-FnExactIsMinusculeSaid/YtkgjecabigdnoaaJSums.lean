/- Sums of weights, and what words do to them. Condition: sizes up to 2^24; a square matrix, letters that are rows'. -/
import Derived.Test.YtkgjecabigdnoaaJReflect
namespace Go.Proofs.Ytkgjecabigdnoaa
open Go.RowKit
set_option maxRecDepth 20000

def addW : List Int → List Int → List Int
  | x :: xs, y :: ys => wrap64 (x + y) :: addW xs ys
  | _, _ => []
def addK (k : Int) : List Int → List Int → List Int
  | x :: xs, y :: ys => wrap64 (x + wrap64 (k * y)) :: addK k xs ys
  | _, _ => []
def rho (c : List (List Int)) : List Int := if isC c then List.replicate c.length 1 else []

theorem addW_take : ∀ (l l' : List Int) (j : Nat) (x y : Int), l[j]? = some x → l'[j]? = some y → addW (l.take (j + 1)) (l'.take (j + 1)) = addW (l.take j) (l'.take j) ++ [wrap64 (x + y)]
  | [], _, _, _, _, h, _ => by simp at h
  | _ :: _, [], _, _, _, _, h => by simp at h
  | z :: zs, t :: ts, 0, x, y, h, h' => by simp at h h'; subst h; subst h'; simp [addW]
  | z :: zs, t :: ts, j + 1, x, y, h, h' => by
    simp at h h'
    have := addW_take zs ts j x y h h'
    simp only [List.take_succ_cons, addW, List.cons_append]
    rw [this]
theorem addW_length : ∀ (l l' : List Int), (addW l l').length = min l.length l'.length
  | [], _ => by simp [addW]
  | _ :: _, [] => by simp [addW]
  | x :: xs, y :: ys => by simp [addW, addW_length xs ys]
theorem addW_cut : ∀ (l l' : List Int) (k : Nat), (l.length ≤ k ∨ l'.length ≤ k) → addW (l.take k) (l'.take k) = addW l l'
  | [], l', k, _ => by simp [addW]
  | x :: xs, [], k, _ => by cases k <;> simp [addW]
  | x :: xs, y :: ys, 0, h => by simp at h
  | x :: xs, y :: ys, k + 1, h => by
    simp only [List.take_succ_cons, addW]
    rw [addW_cut xs ys k (by simpa using h)]
theorem addK_take (q : Int) : ∀ (l l' : List Int) (j : Nat) (x y : Int), l[j]? = some x → l'[j]? = some y → addK q (l.take (j + 1)) (l'.take (j + 1)) = addK q (l.take j) (l'.take j) ++ [wrap64 (x + wrap64 (q * y))]
  | [], _, _, _, _, h, _ => by simp at h
  | _ :: _, [], _, _, _, _, h => by simp at h
  | z :: zs, t :: ts, 0, x, y, h, h' => by simp at h h'; subst h; subst h'; simp [addK]
  | z :: zs, t :: ts, j + 1, x, y, h, h' => by
    simp at h h'
    have := addK_take q zs ts j x y h h'
    simp only [List.take_succ_cons, addK, List.cons_append]
    rw [this]
theorem addK_length (q : Int) : ∀ (l l' : List Int), (addK q l l').length = min l.length l'.length
  | [], _ => by simp [addK]
  | _ :: _, [] => by simp [addK]
  | x :: xs, y :: ys => by simp [addK, addK_length q xs ys]
theorem addK_cut (q : Int) : ∀ (l l' : List Int) (k : Nat), (l.length ≤ k ∨ l'.length ≤ k) → addK q (l.take k) (l'.take k) = addK q l l'
  | [], l', k, _ => by simp [addK]
  | x :: xs, [], k, _ => by cases k <;> simp [addK]
  | x :: xs, y :: ys, 0, h => by simp at h
  | x :: xs, y :: ys, k + 1, h => by
    simp only [List.take_succ_cons, addK]
    rw [addK_cut q xs ys k (by simpa using h)]

theorem fresh_of {W w w1 : World} (hw : Below W.heap.size W w) (h : w1 = w.alloc (.cells #[] 3)) : FI (New W w1) w1 (.slice (some ⟨w.heap.size, 0, none⟩) 0 0) [] ∧ Below W.heap.size W w1 := by
  subst h
  refine ⟨(FI.of_row (w := w) (World.ownsRow_lit (base := w.heap.size) (e := 3) (size := 1) w #[] 0 (Nat.le_refl _) (by unfold maxLen; omega) rfl) (Nat.le_refl _) rfl rfl).mono (fun b hb => ⟨Nat.le_trans hw.size hb.1, hb.2⟩), hw.alloc hw.size _⟩

set_option maxHeartbeats 1000000 in
theorem addWeightsSpec {S S' : Nat → Prop} {u v : Value} {l l' : List Int} {w : World} (h : RI S w u l) (h' : RI S' w v l') (hl : l.length ≤ 16777216) (_ : l'.length ≤ 16777216) :
    Calls Try.prog 58 #[u, v] w fun e w' => ∃ r, e = .returned r ∧ FI (New w w') w' r (addW l l') ∧ Below w.heap.size w w' := by
  obtain ⟨a, cap, rfl⟩ := h.form
  obtain ⟨a', cap', rfl⟩ := h'.form
  have R0 := Lib.hid (addW_cut l l')
  have RL := Lib.hid (addW_length (l.take 0) (l'.take 0))
  generalize hr : addW l l' = res at *
  generalize hn : l.length = n at *
  generalize hn' : l'.length = n' at *
  clear hr hn hn' RL
  go_enter Try.func58, Try.ntmps58
  go_wp2_with fail
  all_goals
    obtain ⟨w1, hw1⟩ : ∃ w1, w1 = w.alloc (.cells #[] 3) := ⟨_, rfl⟩
    obtain ⟨f1, b1⟩ := fresh_of (Below.refl _ w) hw1
    rw [← hw1]
    clear hw1
    go_loopw [5, 6] (fun z j wr => ∃ (k : Nat) (acc : List Int), k ≤ n ∧ k ≤ n' ∧ j = .int .i64 k ∧ FI (New w wr) wr z acc ∧ acc.length ≤ k ∧ Hid (acc = addW (l.take k) (l'.take k)) ∧ Below w.heap.size w wr) (fun _ j _ => n - (intOf j).toNat)
    case atStart => exact ⟨0, [], Nat.zero_le _, Nat.zero_le _, rfl, f1, Nat.zero_le _, Lib.hid rfl, b1⟩
    case round =>
      obtain ⟨k, acc, hk, hk', rfl, hf, hal, HA, hb⟩ := hrel
      by_cases hlt : k < n ∧ k < n'
      · obtain ⟨hlt, hlt'⟩ := hlt
        obtain ⟨b, o, x, rfl, hc0, hx⟩ := RI.at ‹RI S w _ l› hlt
        obtain ⟨b', o', y, rfl, hcx0, hy⟩ := h'.at hlt'
        have l1 := World.block_lt_of_cell? w _ hc0
        have l2 := World.block_lt_of_cell? w _ hcx0
        have hc := (hb.cell l1).trans hc0
        have hcx := (hb.cell l2).trans hcx0
        have hF := Lib.hid (fun (k : Nat) hk => (hf.2 k hk).1)
        have i1 : (k : Int) < (n : Int) := by omega
        have i2 : (k : Int) < (n' : Int) := by omega
        have HA2 : Hid (acc ++ [wrap64 (x + y)] = addW (l.take (k + 1)) (l'.take (k + 1))) := Lib.hid (by rw [addW_take l l' k x y hx.out hy.out, HA.out])
        clear hc0 hcx0
        have bbd : Below wr.heap.size wr (wr.alloc (.cells #[.int .i64 (IntKind.i64.wrap (x + y))] 3)).drew := ((Below.refl _ _).alloc (Nat.le_refl _) _).drew
        have hcn : (wr.alloc (.cells #[.int .i64 (IntKind.i64.wrap (x + y))] 3)).drew.cell? ⟨wr.heap.size, 0, none⟩ = some (.int .i64 (IntKind.i64.wrap (x + y))) := by go_simp
        have hfn := hf.grow bbd
        have hbn := Keeps.step hb bbd
        have hln : acc.length + 1 ≤ 67108864 := by omega
        go_wp2_with fail
        go_region_held3 (fun w' => w'.cell? ⟨b, o + k, none⟩ = some (.int .i64 x) ∧ w'.cell? ⟨b', o' + k, none⟩ = some (.int .i64 y)) (first | go_keep | (go_split_ands; exact ⟨cell_grown hgrow (by assumption) l1 hF.out, cell_grown hgrow (by assumption) l2 hF.out⟩)) ((refine step_app1 (W := w) (by rfl) _ _ (by rfl) (by rfl) hfn hbn (by rfl) hcn hln ?_; intro v' w3 f3 b5 hgrow))
        go_wp2_with fail
        go_roundw
        case rel => exact ⟨k + 1, acc ++ [wrap64 (x + y)], by omega, by omega, by go_num, by simp only [← IntWalk.i64_left]; exact f3, by simp; omega, HA2, b5⟩
        case measure => simp [intOf]; omega
      · have hkk : n ≤ k ∨ n' ≤ k := by omega
        by_cases hq : k < n
        all_goals
          go_wp2_with fail
          go_ret
          have e : acc = res := by rw [HA.out]; exact R0.out k hkk
          subst e
          exact ⟨_, rfl, hf, hb⟩

end Go.Proofs.Ytkgjecabigdnoaa
