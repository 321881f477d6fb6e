/- The laws' own helpers over numbers: a copy of a slice, and the comparison of two. Condition: at most 2^24 numbers. -/
import Derived.Test.YtkgjecabigdnoaaJBase
namespace Go.Proofs.Ytkgjecabigdnoaa
open Go.RowKit
set_option maxRecDepth 20000

theorem replicate_set {l : List Value} {n k : Nat} {x z : Value} (hk : k < n) (hl : l.length = k) : (l ++ List.replicate (n - k) z).set k x = (l ++ [x]) ++ List.replicate (n - (k + 1)) z := by
  subst hl
  obtain ⟨m, hm⟩ : ∃ m, n - l.length = m + 1 := ⟨n - l.length - 1, by omega⟩
  rw [hm, show n - (l.length + 1) = m by omega, List.replicate_succ, List.set_append_right _ _ (by omega)]
  simp

set_option maxHeartbeats 400000 in
theorem toIntS_any {v : Value} {l : List Int} {w : World} (h : RI0 w v l) (hl : l.length ≤ 16777216) :
    Calls Try.prog 20 #[v] w fun e w' => ∃ u, e = .returned u ∧ FI (New w w') w' u l ∧ Below w.heap.size w w' := by
  obtain ⟨a, cap, rfl⟩ := h.form
  obtain ⟨i0, hi, hz0, hz1, hz2⟩ := info_parts infoInt
  generalize hn : l.length = n at *
  have H : Hid (l.length = n) := Lib.hid hn
  clear hn
  obtain ⟨W, hW⟩ : ∃ W, W = w.heap.size := ⟨_, rfl⟩
  go_enter Try.func20, Try.ntmps20
  go_wp2_with (at_make; refine wpList_make_full _ rfl _ _ 24 rfl w.heap.size 3 i0 (.int .i64 0) 1 Try.underlying24 hi hz0 hz1 _ _ _ _ n rfl rfl rfl rfl ?hb ?hm ?hs ?_)
  case hb => rw [hz2]; omega
  case hm => unfold maxLen; omega
  case hs => exact Nat.le_refl _
  intro w1 hown hgr
  have hb1 : Below w.heap.size w w1 := (Below.refl _ w).grown hgr (Nat.le_refl _) (by simp)
  have hsz : w.heap.size < w1.heap.size := (hown.lt _ rfl).2
  clear hgr hi hz0 hz1 hz2
  go_wp2
  go_loopw [4] (fun i wr => ∃ k : Nat, k ≤ n ∧ i = .int .i64 k ∧ wr.ownsRow w.heap.size 3 1 (.slice (some ⟨w.heap.size, 0, none⟩) n n) n ((l.take k).map (Value.int .i64) ++ List.replicate (n - k) (.int .i64 0)) ∧ Below w.heap.size w wr)
    (fun i _ => n - (intOf i).toNat)
  case atStart => exact ⟨0, Nat.zero_le _, rfl, by simpa [toList_madeCells_one, Value.cells] using hown, hb1⟩
  case round =>
    obtain ⟨k, hk, rfl, hown, hb⟩ := hrel
    by_cases hlt : k < n
    · obtain ⟨b, o, x, rfl, hc, hx⟩ := (h.below hb).at hlt
      have hf := hown.frozenAt k
      obtain ⟨y, hcg, _⟩ := own_cell hown hlt
      have hst := Lib.hid (hown.stored k (.int .i64 x))
      go_wp2
      go_roundw
      case rel =>
        obtain ⟨s1, s2⟩ := hst.out
        refine ⟨k + 1, by omega, by go_num, ?_, hb.setCell (Nat.le_refl _) _⟩
        rw [replicate_set hlt (by have := H.out; simp; omega)] at s1
        rw [take_step hx.out]
        simpa using s1
      case measure => simp [intOf]; omega
    · have hkn : k = n := by omega
      go_wp2
      go_ret
      refine ⟨_, rfl, FI.of_row hown (Nat.le_refl _) H.out.symm ?_, hb⟩
      subst hkn
      have e := H.out
      subst e
      simp

set_option maxHeartbeats 400000 in
theorem eqIntS_same {S S' : Nat → Prop} {u v : Value} {l : List Int} {w : World} (h : RI S w u l) (h' : RI S' w v l) (hl : l.length ≤ 16777216) :
    Calls Try.prog 14 #[u, v] w fun e w' => e = .returned (.bool true) ∧ ∃ m, w' = w.drewN m := by
  obtain ⟨a, cap, rfl⟩ := h.form
  obtain ⟨a', cap', rfl⟩ := h'.form
  generalize hn : l.length = n at *
  clear hn
  go_enter Try.func14, Try.ntmps14
  go_wp2
  go_loopw [5] (fun i wr => ∃ k m : Nat, k ≤ n ∧ i = .int .i64 k ∧ wr = w.drewN m) (fun i _ => n - (intOf i).toNat)
  case atStart => exact ⟨0, 0, Nat.zero_le _, rfl, rfl⟩
  case round =>
    obtain ⟨k, m, hk, rfl, hw⟩ := hrel
    subst hw
    by_cases hlt : k < n
    · obtain ⟨b, o, x, rfl, hc, hx⟩ := h.at hlt
      obtain ⟨b', o', x', rfl, hc', hx'⟩ := h'.at hlt
      have e : x' = x := by have := hx.out.symm.trans hx'.out; simpa using this.symm
      subst e
      have b1 : (k : Int) < (n : Int) := by omega
      go_wp2
      go_quiet (fail)
      go_wp2
      go_roundw
      case rel => exact ⟨k + 1, m + nq, by omega, by go_num, by simp⟩
      case measure => simp [intOf]; omega
    · go_wp2
      go_ret
      exact ⟨rfl, m, rfl⟩

/-- Consecutive numbers. -/
def marks (k : Nat) (n : Nat) : List Int := (List.range n).map fun i => ((k + i : Nat) : Int)

theorem marks_length (k n : Nat) : (marks k n).length = n := by simp [marks]
theorem marks_at {k n i : Nat} (h : i < n) : (marks k n)[i]? = some ((k + i : Nat) : Int) := by simp [marks, h]

theorem marks_set {l : List Int} {k i : Nat} (h : i < l.length) : (((marks k i) ++ l.drop i).map (Value.int .i64)).set i (.int .i64 ((k + i : Nat) : Int)) = ((marks k (i + 1)) ++ l.drop (i + 1)).map (Value.int .i64) := by
  rw [List.drop_eq_getElem_cons h]
  simp only [List.map_append, List.map_cons]
  rw [List.set_append_right _ _ (by simp [marks])]
  simp [marks, List.range_succ]

set_option maxHeartbeats 400000 in
theorem markIntS_any {S : Nat → Prop} {v : Value} {l : List Int} {w : World} (h : FI S w v l) (k : Nat) (hl : l.length + k ≤ 16777216) :
    Calls Try.prog 17 #[v, .int .i64 k] w fun e w' => e = .returned (.int .i64 ((k + l.length : Nat) : Int)) ∧ FI S w' v (marks k l.length) ∧ Only (fun b => v.ownBlock = some b) w w' := by
  obtain ⟨a, cap, rfl⟩ := h.any.form
  generalize hn : l.length = n at *
  have H := Lib.hid hn
  clear hn
  go_enter Try.func17, Try.ntmps17
  go_wp2
  go_loopw [1, 5] (fun q i wr => ∃ j : Nat, j ≤ n ∧ i = .int .i64 j ∧ q = .int .i64 ((k + j : Nat) : Int) ∧ FI S wr (.slice a n cap) (marks k j ++ l.drop j) ∧ Only (fun b => Value.ownBlock (.slice a n cap) = some b) w wr) (fun _ i _ => n - (intOf i).toNat)
  case atStart => exact ⟨0, Nat.zero_le _, rfl, rfl, by simpa [marks] using h, Only.refl _ _⟩
  case round =>
    obtain ⟨j, hj, rfl, rfl, hf, ho⟩ := hrel
    have hlen : (marks k j ++ l.drop j).length = n := by have := H.out; simp [marks]; omega
    by_cases hlt : j < n
    · obtain ⟨hown, hS⟩ := hf
      rw [hlen] at hown
      obtain ⟨b, o, x, rfl, hc, hx⟩ := (h.any).at hlt
      have ho0 : o = 0 := by
        rcases h.1.2 with ⟨h1, _⟩ | ⟨g, cap', cur, h1, _⟩ <;> simp at h1
        exact h1.1.2
      subst ho0
      have hfz := hown.frozenAt j
      obtain ⟨y, hcg, _⟩ := own_cell hown hlt
      have hst := Lib.hid (hown.stored j (.int .i64 ((k + j : Nat) : Int)))
      clear hc
      go_wp2
      go_roundw
      case rel =>
        obtain ⟨s1, s2⟩ := hst.out
        rw [marks_set (by have := H.out; omega)] at s1
        refine ⟨j + 1, by omega, by go_num, by go_num, ⟨?_, hS⟩, ?_⟩
        · rw [show (marks k (j + 1) ++ l.drop (j + 1)).length = n by have := H.out; simp [marks]; omega]
          simpa using s1
        · exact Only.setCell ho rfl _
      case measure => simp [intOf]; omega
    · have hjn : j = n := by omega
      subst hjn
      go_wp2
      go_ret
      refine ⟨rfl, ?_, ho⟩
      have e := H.out
      rw [List.drop_eq_nil_of_le (by omega), List.append_nil] at hf
      exact hf

set_option maxHeartbeats 400000 in
theorem heldIntS_any {S : Nat → Prop} {v : Value} {w : World} (k n : Nat) (h : RI S w v (marks k n)) (hl : n + k ≤ 16777216) :
    Calls Try.prog 18 #[v, .int .i64 k] w fun e w' => e = .returned (.int .i64 ((k + n : Nat) : Int)) ∧ ∃ m, w' = w.drewN m := by
  obtain ⟨a, cap, rfl⟩ := h.form
  rw [marks_length] at *
  go_enter Try.func18, Try.ntmps18
  go_wp2
  go_loopw [1, 5] (fun q i wr => ∃ j m : Nat, j ≤ n ∧ i = .int .i64 j ∧ q = .int .i64 ((k + j : Nat) : Int) ∧ wr = w.drewN m) (fun _ i _ => n - (intOf i).toNat)
  case atStart => exact ⟨0, 0, Nat.zero_le _, rfl, rfl, rfl⟩
  case round =>
    obtain ⟨j, m, hj, rfl, rfl, hw⟩ := hrel
    subst hw
    by_cases hlt : j < n
    · obtain ⟨b, o, x, rfl, hc, hx⟩ := h.at hlt
      have e : x = ((k + j : Nat) : Int) := by have := hx.out; rw [marks_at hlt] at this; simpa using this.symm
      subst e
      go_wp2
      go_roundw
      case rel => exact ⟨j + 1, m, by omega, by go_num, by go_num, rfl⟩
      case measure => simp [intOf]; omega
    · have hjn : j = n := by omega
      subst hjn
      go_wp2
      go_ret
      exact ⟨rfl, m, rfl⟩

def szI (left : Int) (n : Nat) : Int := if left < n then -1 else left - n

set_option maxHeartbeats 400000 in
theorem szIntS_any {v : Value} {l : List Int} {w : World} (h : RI0 w v l) (q : Int) (h0 : 0 ≤ q) (h1 : q ≤ 1048576) :
    Calls Try.prog 33 #[v, .int .i64 q] w fun e w' => e = .returned (.int .i64 (szI q l.length)) ∧ w = w' := by
  obtain ⟨a, cap, rfl⟩ := h.form
  have hs := h.small
  unfold maxLen at hs
  generalize l.length = n at *
  by_cases hlt : q < n
  · go_enter Try.func33, Try.ntmps33
    go_wp2
    go_ret
    exact ⟨ret_int (by rw [szI, if_pos (by omega)]), rfl⟩
  · go_enter Try.func33, Try.ntmps33
    go_wp2
    go_ret
    exact ⟨ret_int (by rw [szI, if_neg (by omega)]), rfl⟩

theorem markIntS_f {S : Nat → Prop} {v : Value} {l : List Int} {w : World} (h : FI S w v l) (k : Nat) (hl : l.length + k ≤ 16777216) :
    Calls Try.prog 17 #[v, .int .i64 k] w fun e w' => e = .returned (.int .i64 ((k + l.length : Nat) : Int)) ∧ FI S w' v (marks k l.length) ∧ Only S w w' :=
  (markIntS_any h k hl).mono fun _ _ ⟨h1, h2, h3⟩ => ⟨h1, h2, h3.mono fun b hb => h.2 b hb⟩

theorem heldIntS_f {S : Nat → Prop} {v : Value} {w : World} {k n : Nat} (h : FI S w v (marks k n)) (hl : n + k ≤ 16777216) :
    Calls Try.prog 18 #[v, .int .i64 k] w fun e w' => e = .returned (.int .i64 ((k + n : Nat) : Int)) ∧ ∃ m, w' = w.drewN m := heldIntS_any k n h.any hl
end Go.Proofs.Ytkgjecabigdnoaa
