/- The laws' own helpers over lists of weights with counts. Condition: sizes up to 2^24. -/
import Derived.Test.YteglcjembimegaaDoorLawInts
import Derived.Test.YteglcjembimegaaDoorFresh
import Derived.Test.YteglcjembimegaaDoorOpen
import Derived.StillTailTactics
namespace Go.Proofs.YteglcjembimegaaDoor
open Go.RowKit
set_option maxRecDepth 20000

abbrev Wtd := List Int × Int
def RWtd (S : Nat → Prop) (w : World) (r r' : Value) (x : Wtd) : Prop := RI S w r x.1 ∧ r' = .int .i64 x.2
abbrev RW (S : Nat → Prop) := RL2 (some 41) S (RWtd S)
def RWtd0 (w : World) (r r' : Value) (x : Wtd) : Prop := RI0 w r x.1 ∧ r' = .int .i64 x.2
abbrev RW0 := RL2 none Any RWtd0
theorem RW0.below {w w' : World} {v : Value} {L : List Wtd} (h : RW0 w v L) (hb : Below w.heap.size w w') : RW0 w' v L :=
  RL2.keep h (fun b _ hl => hb.block b hl) (fun _ _ _ h => ⟨RI0.below h.1 hb, h.2⟩)

theorem RW.keep {S : Nat → Prop} {w w' : World} {v : Value} {L : List Wtd} (h : RW S w v L) (hb : ∀ b, S b → b < w.heap.size → w'.heap[b]? = w.heap[b]?) : RW S w' v L :=
  RL2.keep h hb (fun _ _ _ h => ⟨RI.keep h.1 hb, h.2⟩)
theorem RW.below {S : Nat → Prop} {w w' : World} {v : Value} {L : List Wtd} (h : RW S w v L) (hb : Below w.heap.size w w') : RW S w' v L := RW.keep h fun b _ hl => hb.block b hl
theorem RW.drewN {S : Nat → Prop} {w : World} {v : Value} {L : List Wtd} (h : RW S w v L) (n : Nat) : RW S (w.drewN n) v L := RW.keep h fun _ _ _ => rfl
theorem RW.any {S : Nat → Prop} {w : World} {v : Value} {L : List Wtd} (h : RW S w v L) : RW Any w v L := RL2.mono h (fun _ _ => trivial) (fun _ _ _ h => ⟨RI.any h.1, h.2⟩)
theorem RW.only {S S' : Nat → Prop} {w w' : World} {v : Value} {L : List Wtd} (h : RW S w v L) (k : Only S' w w') (hd : ∀ b, S b → ¬ S' b) : RW S w' v L := RW.keep h fun b hs _ => k.block b (hd b hs)

/-- What came in as weights with counts. -/
theorem RWtdW.plain {w : World} {v : Value} {L : List Wtd} (h : RL2 none Any RWtdW w v L) : RW0 w v L := RL2.mono h (fun _ h => h) (fun _ _ _ h => ⟨RIW.plain h.1, h.2.1⟩)

def totalW (L : List Wtd) : Nat := L.length + (L.map fun x => x.1.length).sum

theorem sumW_take {L : List Wtd} {k : Nat} {x : Wtd} (h : L[k]? = some x) : ((L.take (k + 1)).map fun x => x.1.length).sum = ((L.take k).map fun x => x.1.length).sum + x.1.length := by
  rw [take_step h]; simp

theorem wtd_le {L : List Wtd} {x : Wtd} (h : x ∈ L) : L.length + x.1.length ≤ totalW L := by
  unfold totalW
  have : x.1.length ≤ (L.map fun x => x.1.length).sum := by
    induction L with
    | nil => cases h
    | cons y L ih =>
      rcases List.mem_cons.1 h with rfl | h
      · simp
      · have := ih h; simp; omega
  omega

set_option maxHeartbeats 400000 in
theorem szWeighted_any {r : Value} {c : Int} {l : List Int} {w : World} (h : RI0 w r l) (q : Int) (h0 : 0 ≤ q) (h1 : q ≤ 1048576) :
    Calls Tryd.prog 15 #[.agg #[r, .int .i64 c], .int .i64 q] w fun e w' => e = .returned (.int .i64 (szI q l.length)) ∧ Below w.heap.size w w' := by
  obtain ⟨a, cap, rfl⟩ := h.form
  go_enter Tryd.func15, Tryd.ntmps15
  go_wp2_with fail
  have h2 := h.below ((Below.refl _ w).alloc (Nat.le_refl _) (.cells #[.slice a l.length cap, .int .i64 c] 39))
  refine (szIntS_any h2 q h0 h1).mono ?_
  rintro e w' ⟨rfl, rfl⟩
  unfold szI
  by_cases hlt : q < l.length
  · rw [if_pos hlt]
    go_wp2_with fail
    go_ret
    exact ⟨ret_int (by unfold szI; rw [if_pos (by omega)]), (Below.refl _ w).alloc (Nat.le_refl _) _⟩
  · rw [if_neg hlt]
    go_wp2_with fail
    go_ret
    exact ⟨ret_int (by unfold szI; rw [if_neg (by omega)]), (Below.refl _ w).alloc (Nat.le_refl _) _⟩

set_option maxHeartbeats 400000 in
theorem szWeightedS_any {v : Value} {L : List Wtd} {w : World} (h : RW0 w v L) (q : Int) (h0 : 0 ≤ q) (h1 : q ≤ 1048576) :
    Calls Tryd.prog 5 #[v, .int .i64 q] w fun e w' => (∃ r : Int, e = .returned (.int .i64 r) ∧ (r < 0 ∨ (0 ≤ r ∧ r + totalW L = q))) ∧ Below w.heap.size w w' := by
  obtain ⟨a, cap, rfl⟩ := h.form
  have hs := h.small
  unfold maxLen at hs
  generalize hn : L.length = n at *
  have H := Lib.hid hn
  clear hn
  by_cases hlt : q < n
  · go_enter Tryd.func5, Tryd.ntmps5
    go_wp2_with fail
    go_ret
    exact ⟨⟨_, rfl, .inl (by omega)⟩, Below.refl _ _⟩
  · go_enter Tryd.func5, Tryd.ntmps5
    go_wp2_with fail
    go_loopw [1, 5] (fun r i wr => ∃ (k : Nat) (t : Int), k ≤ n ∧ i = .int .i64 k ∧ r = .int .i64 t ∧ 0 ≤ t ∧ t ≤ 1048576 ∧ Hid (t + (n + ((L.take k).map fun x => x.1.length).sum : Nat) = q) ∧ Below w.heap.size w wr) (fun _ i _ => n - (intOf i).toNat)
    case atStart => exact ⟨0, _, Nat.zero_le _, rfl, rfl, by omega, by omega, Lib.hid (by simp), Below.refl _ _⟩
    case round =>
      obtain ⟨k, t, hk, rfl, rfl, ht0, ht1, HT, hb⟩ := hrel
      by_cases hk' : k < n
      · obtain ⟨b, o, r, r', x, rfl, hc, hc', ⟨hr, hr'⟩, hx⟩ := (h.below hb).at hk'
        obtain ⟨l, c⟩ := x
        subst hr'
        go_wp2_with fail
        refine (szWeighted_any hr t ht0 ht1).mono ?_
        rintro e w' ⟨rfl, b2⟩
        have hb2 := Keeps.step hb b2
        by_cases hn : t < l.length
        · rw [szI, if_pos hn]
          go_wp2_with fail
          go_ret
          exact ⟨⟨_, rfl, .inl (by omega)⟩, hb2⟩
        · rw [szI, if_neg hn]
          have g1 : 0 ≤ t - (l.length : Int) := by omega
          have g2 : t - (l.length : Int) ≤ 1048576 := by omega
          have HT2 : Hid (t - (l.length : Int) + (n + ((L.take (k + 1)).map fun x => x.1.length).sum : Nat) = q) := by
            refine Lib.hid ?_
            have := HT.out
            rw [sumW_take hx.out]
            show t - (l.length : Int) + ((n + (_ + l.length) : Nat) : Int) = q
            omega
          generalize t - (l.length : Int) = t' at *
          go_wp2_with fail
          go_roundw
          case rel => exact ⟨k + 1, t', by omega, by go_num, rfl, by omega, by omega, HT2, hb2⟩
          case measure => simp [intOf]; omega
      · go_wp2_with fail
        go_ret
        refine ⟨⟨t, rfl, .inr ⟨ht0, ?_⟩⟩, hb⟩
        have := HT.out
        have e := H.out
        rw [List.take_of_length_le (by omega)] at this
        unfold totalW
        omega

set_option maxHeartbeats 400000 in
theorem toWeighted_any {r : Value} {c : Int} {l : List Int} {w : World} (h : RI0 w r l) (hl : l.length ≤ 16777216) :
    Calls Tryd.prog 18 #[.agg #[r, .int .i64 c]] w fun e w' => ∃ u, e = .returned (.agg #[u, .int .i64 c]) ∧ FI (New w w') w' u l ∧ Below w.heap.size w w' := by
  obtain ⟨a, cap, rfl⟩ := h.form
  go_enter Tryd.func18, Tryd.ntmps18
  go_wp2_with fail
  obtain ⟨W1, hW1⟩ : ∃ W1, W1 = ((w.alloc (.cells #[.slice a l.length cap, .int .i64 c] 39)).alloc (.cells #[.slice none 0 0, .int .i64 0] 41)).alloc (.cells #[.slice none 0 0, .int .i64 0] 41) := ⟨_, rfl⟩
  have b1 : Below w.heap.size w W1 := by
    rw [hW1]
    exact ((((Below.refl _ w).alloc (Nat.le_refl _) _).alloc (by simp) _).alloc (by simp; omega) _)
  have h2 := h.below b1
  have z1 : W1.heap.size = w.heap.size + 3 := by rw [hW1]; simp
  have c01 : W1.cell? ⟨w.heap.size, 1, none⟩ = some (.int .i64 c) := by rw [hW1]; go_simp
  have c10 : W1.cell? ⟨w.heap.size + 1, 0, none⟩ = some (.slice none 0 0) := by rw [hW1]; go_simp
  have c11 : W1.cell? ⟨w.heap.size + 1, 1, none⟩ = some (.int .i64 0) := by rw [hW1]; go_simp
  have c20 : W1.cell? ⟨w.heap.size + 1 + 1, 0, none⟩ = some (.slice none 0 0) := by rw [hW1]; go_simp
  have c21 : W1.cell? ⟨w.heap.size + 1 + 1, 1, none⟩ = some (.int .i64 0) := by rw [hW1]; go_simp
  have f10 : W1.frozen? ⟨w.heap.size + 1, 0, none⟩ = false := by rw [hW1]; go_simp
  have f11 : W1.frozen? ⟨w.heap.size + 1, 1, none⟩ = false := by rw [hW1]; go_simp
  have f20 : W1.frozen? ⟨w.heap.size + 1 + 1, 0, none⟩ = false := by rw [hW1]; go_simp
  have f21 : W1.frozen? ⟨w.heap.size + 1 + 1, 1, none⟩ = false := by rw [hW1]; go_simp
  rw [← hW1]
  clear hW1
  refine (toIntS_any h2 hl).mono ?_
  rintro e w1 ⟨u, rfl, f, b2⟩
  obtain ⟨ua, uc, rfl⟩ := f.form
  have c01 := (b2.cell (p := ⟨w.heap.size, 1, none⟩) (by simp; omega)).trans c01
  have c10 := (b2.cell (p := ⟨w.heap.size + 1, 0, none⟩) (by simp; omega)).trans c10
  have c11 := (b2.cell (p := ⟨w.heap.size + 1, 1, none⟩) (by simp; omega)).trans c11
  have c20 := (b2.cell (p := ⟨w.heap.size + 1 + 1, 0, none⟩) (by simp; omega)).trans c20
  have c21 := (b2.cell (p := ⟨w.heap.size + 1 + 1, 1, none⟩) (by simp; omega)).trans c21
  have f10 := (b2.frozen (p := ⟨w.heap.size + 1, 0, none⟩) (by simp; omega)).trans f10
  have f11 := (b2.frozen (p := ⟨w.heap.size + 1, 1, none⟩) (by simp; omega)).trans f11
  have f20 := (b2.frozen (p := ⟨w.heap.size + 1 + 1, 0, none⟩) (by simp; omega)).trans f20
  have f21 := (b2.frozen (p := ⟨w.heap.size + 1 + 1, 1, none⟩) (by simp; omega)).trans f21
  go_wp2_with fail
  refine bodyPost_ret (v := .agg #[.slice ua l.length uc, .int .i64 c]) (by simp [results, Tryd.results18, go_sem, c10, c11]) rfl ⟨_, rfl, ?_, ?_⟩
  · have g0 : ∀ x, ¬ New W1 w1 x ∨ w.heap.size + 3 ≤ x := fun x => by
      by_cases hx : New W1 w1 x
      · right; have := hx.1; omega
      · left; exact hx
    refine ((((f.set _ ?_).set _ ?_).set _ ?_).set _ ?_).mono (fun b hb => ⟨by have := hb.1; omega, by simp only [size_setCell]; exact hb.2⟩)
    · rcases g0 (w.heap.size + 1 + 1) with h | h
      · exact h
      · omega
    · rcases g0 (w.heap.size + 1 + 1) with h | h
      · exact h
      · omega
    · rcases g0 (w.heap.size + 1) with h | h
      · exact h
      · omega
    · rcases g0 (w.heap.size + 1) with h | h
      · exact h
      · omega
  · exact ((((Keeps.step b1 b2).setCell (by simp; omega) _).setCell (by simp; omega) _).setCell (by simp) _).setCell (by simp) _

abbrev itWtd (L : List Wtd) : List It := L.flatMap fun x => [.inl x.1, .inr x.2]
/-- A fresh slice of fresh weights with counts. -/
abbrev FW (S : Nat → Prop) (w : World) (v : Value) (L : List Wtd) : Prop := FC S 41 2 w v L.length (itWtd L)

theorem itWtd_length (L : List Wtd) : (itWtd L).length = L.length * 2 := by
  induction L with
  | nil => rfl
  | cons x L ih => simp [itWtd] at *; omega

theorem itWtd_at (L : List Wtd) : ∀ (j : Nat) (x : Wtd), L[j]? = some x → (itWtd L)[j * 2]? = some (.inl x.1) ∧ (itWtd L)[j * 2 + 1]? = some (.inr x.2) := by
  induction L with
  | nil => intro j x h; simp at h
  | cons y L ih =>
    intro j x h
    cases j with
    | zero => simp at h; subst h; simp [itWtd]
    | succ j =>
      simp at h
      have := ih j x h
      rw [show (j + 1) * 2 = j * 2 + 1 + 1 by omega, show j * 2 + 1 + 1 + 1 = (j * 2 + 1) + 1 + 1 by omega]
      simpa [itWtd] using this

theorem FW.read {S : Nat → Prop} {w : World} {v : Value} {L : List Wtd} (h : FW S w v L) : RW S w v L := by
  obtain ⟨vs, h1, h2, h3, h4, _⟩ := h
  have hlen := h1.1
  rcases h1.2 with ⟨rfl, h0⟩ | ⟨g, cap, cur, hv, _, hg, hc⟩
  · have : L = [] := List.eq_nil_of_length_eq_zero h0
    subst this
    exact RL2.nil _ _ (by unfold maxLen; omega)
  · subst hv
    refine ⟨_, _, rfl, ⟨hc.1, hc.2.1⟩, .inr ⟨g, 0, rfl, h3 g rfl, ⟨cur, (0, 0), hg⟩, fun j x hx => ?_⟩⟩
    have hj : j < L.length := by
      rcases Nat.lt_or_ge j L.length with h | h
      · exact h
      · rw [List.getElem?_eq_none h] at hx; cases hx
    obtain ⟨i1, i2⟩ := itWtd_at L j x hx
    have k1 := h1.cellAt (j * 2) (by omega)
    have k2 := h1.cellAt (j * 2 + 1) (by omega)
    rw [List.getElem?_eq_getElem (by omega)] at k1 k2
    refine ⟨_, _, by rw [Nat.zero_add]; exact k1, by rw [Nat.zero_add]; exact k2, ?_, ?_⟩
    · exact FI.reads (h4 (j * 2) _ (.inl x.1) (by rw [List.getElem?_eq_getElem (by omega)]) i1)
    · exact h4 (j * 2 + 1) _ (.inr x.2) (by rw [List.getElem?_eq_getElem (by omega)]) i2
theorem FW.below {S : Nat → Prop} {w w' : World} {v : Value} {L : List Wtd} (h : FW S w v L) (hb : Below w.heap.size w w') : FW S w' v L := FC.below h hb
theorem FW.only {S S' : Nat → Prop} {w w' : World} {v : Value} {L : List Wtd} (h : FW S w v L) (k : Only S' w w') (hd : ∀ b, S b → ¬ S' b) : FW S w' v L := FC.only h k hd
theorem FW.any {S : Nat → Prop} {w : World} {v : Value} {L : List Wtd} (h : FW S w v L) : RW Any w v L := RW.any h.read

theorem itWtd_set (L : List Wtd) : ∀ (j : Nat) (l : List Int) (c : Int), ((itWtd L).set (j * 2) (.inl l)).set (j * 2 + 1) (.inr c) = itWtd (L.set j (l, c)) := by
  induction L with
  | nil => intro j l c; simp [itWtd]
  | cons y L ih =>
    intro j l c
    cases j with
    | zero => simp [itWtd]
    | succ j =>
      have := ih j l c
      rw [show (j + 1) * 2 = j * 2 + 1 + 1 by omega]
      simpa [itWtd] using this

theorem infoWtd : (Tryd.prog.info? 41).map (fun i => (i.zero, i.size, i.bytes)) = some (some (.agg #[.slice none 0 0, .int .i64 0]), 2, 32) := by kernel_rfl

set_option maxHeartbeats 1000000 in
theorem toWeightedS_any {v : Value} {L : List Wtd} {w : World} (h : RW0 w v L) (hl : totalW L ≤ 16777216) :
    Calls Tryd.prog 7 #[v] w fun e w' => ∃ u, e = .returned u ∧ FW (New w w') w' u L ∧ Below w.heap.size w w' := by
  obtain ⟨a, cap, rfl⟩ := h.form
  obtain ⟨i0, hi, hz0, hz1, hz2⟩ := info_parts infoWtd
  have hn0 : L.length ≤ 16777216 := by unfold totalW at hl; omega
  generalize hn : L.length = n at *
  have H : Hid (L.length = n) := Lib.hid hn
  clear hn
  go_enter Tryd.func7, Tryd.ntmps7
  go_wp2_with (at_make; refine wpList_make_full _ rfl _ _ 25 rfl w.heap.size 41 i0 (.agg #[.slice none 0 0, .int .i64 0]) 2 Tryd.underlying25 hi hz0 hz1 _ _ _ _ n rfl rfl rfl rfl ?hb ?hm ?hs ?_)
  case hb => rw [hz2]; omega
  case hm => unfold maxLen; omega
  case hs => exact Nat.le_refl _
  intro w1 hown hgr
  have hb1 : Below w.heap.size w w1 := (Below.refl _ w).grown hgr (Nat.le_refl _) (by simp)
  have hf0 : FC (New w w1) 41 2 w1 (.slice (some ⟨w.heap.size, 0, none⟩) n n) n (itWtd (List.replicate n ([], 0))) := by
    refine FC.of_row hown (Nat.le_refl _) (by rw [itWtd_length]; simp [size_madeCells]) (fun j r x hr hx => ?_)
    have hj : j < n * 2 := by
      rcases Nat.lt_or_ge j (n * 2) with h | h
      · exact h
      · rw [List.getElem?_eq_none (by simpa [size_madeCells] using h)] at hr; cases hr
    rw [made_two _ _ _ _ hj] at hr
    have h12 := itWtd_at (List.replicate n ([], 0)) (j / 2) ([], 0) (by rw [List.getElem?_replicate, if_pos (by omega)])
    by_cases hp : j % 2 = 0
    · rw [if_pos hp] at hr
      rw [show j = j / 2 * 2 by omega, h12.1] at hx
      cases hr
      cases hx
      exact ⟨⟨World.ownsRow_nil _ _ _ _, fun b hb => (by cases hb)⟩, rfl⟩
    · rw [if_neg hp] at hr
      rw [show j = j / 2 * 2 + 1 by omega, h12.2] at hx
      cases hr
      cases hx
      exact ⟨rfl, rfl⟩
  clear hgr hi hz0 hz1 hz2 hown
  go_wp2_with fail
  go_loopw [4] (fun i wr => ∃ k : Nat, k ≤ n ∧ i = .int .i64 k ∧ FC (New w wr) 41 2 wr (.slice (some ⟨w.heap.size, 0, none⟩) n n) n (itWtd (L.take k ++ List.replicate (n - k) ([], 0))) ∧ Below w.heap.size w wr)
    (fun i _ => n - (intOf i).toNat)
  case atStart => exact ⟨0, Nat.zero_le _, rfl, by simpa using hf0, hb1⟩
  case round =>
    obtain ⟨k, hk, rfl, hf, hb⟩ := hrel
    by_cases hlt : k < n
    · obtain ⟨b, o, r, r', x, rfl, hc, hc', ⟨hr, hr'⟩, hx⟩ := (h.below hb).at hlt
      obtain ⟨l, c⟩ := x
      subst hr'
      have hll : l.length ≤ 16777216 := by have := wtd_le (List.mem_of_getElem? hx.out); simp at this; omega
      go_wp2_with fail
      refine (toWeighted_any hr hll).mono ?_
      rintro e w2 ⟨u, rfl, f, b2⟩
      obtain ⟨ua, uc, rfl⟩ := f.form
      have hf2 := hf.below b2
      have hL := H.out
      have hat := itWtd_at _ k ([], 0) (fill_at (z := (([], 0) : Wtd)) hL hlt)
      have hlen : (itWtd (L.take k ++ List.replicate (n - k) (([], 0) : Wtd))).length = n * 2 := by rw [itWtd_length, fill_len hL hk]
      obtain ⟨y, hcy, _, hfz⟩ := hf2.cell hat.1
      obtain ⟨y', hcy', _, hfz'⟩ := hf2.cell hat.2
      have hput : Hid (FC (New w w2) 41 2 ((w2.setCell ⟨w.heap.size, k * 2, none⟩ (.slice ua l.length uc)).setCell ⟨w.heap.size, k * 2 + 1, none⟩ (.int .i64 c)) (.slice (some ⟨w.heap.size, 0, none⟩) n n) n (itWtd (L.take (k + 1) ++ List.replicate (n - (k + 1)) ([], 0)))) := by
        refine Lib.hid ?_
        have hsz := b2.size
        have hsz' := hb.size
        have p := FC.put (hf2.mono (S' := New w w2) (fun b hb => ⟨hb.1, by have := hb.2; omega⟩)) (by decide) (j := k * 2) (r := .slice ua l.length uc) (l := l) (by rw [hlen]; omega) (f.mono (fun b hb => ⟨by have := hb.1; omega, hb.2⟩))
          (fun i r' b hi hij hil hbu => ?_)
        · have p2 := FC.stored p (by decide) (j := k * 2 + 1) (q := 0) (by rw [List.getElem?_set_ne (by omega)]; exact hat.2) c
          rw [itWtd_set, take_fill (z := (([], 0) : Wtd)) hx.out hlt] at p2
          exact p2
        · intro hb'
          obtain ⟨x, hx'⟩ : ∃ x, (itWtd (L.take k ++ List.replicate (n - k) (([], 0) : Wtd)))[i]? = some x := ⟨_, List.getElem?_eq_getElem hil⟩
          obtain ⟨y', h1, h2, _⟩ := hf.cell hx'
          have h3 := World.cell?_of_block (w := wr) (w' := w2) (a := ⟨w.heap.size, i, none⟩) (b2.block w.heap.size (by
            obtain ⟨vs, g1, _⟩ := hf
            exact (g1.lt w.heap.size rfl).2))
          rw [h3, h1] at hi
          cases hi
          have := (h2.lt hb').1
          have := (f.2 b hbu).1
          omega
      clear hat hf hf2 f hr hlen hL
      go_wp2_with fail
      go_roundw
      case rel => exact ⟨k + 1, by omega, by go_num, hput.out.mono (fun b hb => ⟨hb.1, by simp only [size_setCell]; exact hb.2⟩), ((hb.trans (b2.mono hb.size)).setCell (Nat.le_refl _) _).setCell (Nat.le_refl _) _⟩
      case measure => simp [intOf]; omega
    · have hkn : k = n := by omega
      subst hkn
      go_wp2_with fail
      go_ret
      refine ⟨_, rfl, ?_, hb⟩
      have e := H.out
      unfold FW
      rw [e]
      rw [List.take_of_length_le (by omega)] at hf
      simpa using hf

set_option maxHeartbeats 400000 in
theorem eqWeighted_same {S S' : Nat → Prop} {r r' : Value} {c : Int} {l : List Int} {w : World} (h : RI S w r l) (h' : RI S' w r' l) (hl : l.length ≤ 16777216) :
    Calls Tryd.prog 22 #[.agg #[r, .int .i64 c], .agg #[r', .int .i64 c]] w fun e w' => e = .returned (.bool true) ∧ Below w.heap.size w w' := by
  obtain ⟨a, cap, rfl⟩ := h.form
  obtain ⟨a', cap', rfl⟩ := h'.form
  go_enter Tryd.func22, Tryd.ntmps22
  go_wp2_with fail
  refine (eqIntS_same (h.below (((Below.refl _ w).alloc (Nat.le_refl _) _).alloc (by simp) _)) (h'.below (((Below.refl _ w).alloc (Nat.le_refl _) _).alloc (by simp) _)) hl).mono ?_
  rintro e w' ⟨rfl, m, rfl⟩
  go_wp2_with fail
  go_ret
  exact ⟨rfl, below_drewN (((Below.refl _ w).alloc (Nat.le_refl _) _).alloc (by simp) _) m⟩

set_option maxHeartbeats 400000 in
theorem eqWeightedS_same {S S' : Nat → Prop} {u v : Value} {L : List Wtd} {w : World} (h : RW S w u L) (h' : RW S' w v L) (hl : totalW L ≤ 16777216) :
    Calls Tryd.prog 9 #[u, v] w fun e w' => e = .returned (.bool true) ∧ Below w.heap.size w w' := by
  obtain ⟨a, cap, rfl⟩ := h.form
  obtain ⟨a', cap', rfl⟩ := h'.form
  have hn0 : L.length ≤ 16777216 := by unfold totalW at hl; omega
  generalize hn : L.length = n at *
  clear hn
  go_enter Tryd.func9, Tryd.ntmps9
  go_wp2_with fail
  go_loopw [5] (fun i wr => ∃ k : Nat, k ≤ n ∧ i = .int .i64 k ∧ Below w.heap.size w wr) (fun i _ => n - (intOf i).toNat)
  case atStart => exact ⟨0, Nat.zero_le _, rfl, Below.refl _ _⟩
  case round =>
    obtain ⟨k, hk, rfl, hb⟩ := hrel
    by_cases hlt : k < n
    · obtain ⟨b, o, r, q, x, rfl, hc, hd, ⟨hr, rfl⟩, hx⟩ := (h.below hb).at hlt
      obtain ⟨b', o', r', q', x', rfl, hc', hd', ⟨hr', rfl⟩, hx'⟩ := (h'.below hb).at hlt
      have e : x' = x := by have := hx.out.symm.trans hx'.out; simpa using this.symm
      subst e
      obtain ⟨l, c⟩ := x'
      have hll : l.length ≤ 16777216 := by have := wtd_le (List.mem_of_getElem? hx.out); simp at this; omega
      have b1 : (k : Int) < (n : Int) := by omega
      go_wp2_with fail
      go_still_tail 8, (by kernel_rfl)
      change wpList _ _ _ _ _ wr.drew
      go_wp2_with fail
      refine (eqWeighted_same hr.drew hr'.drew hll).mono ?_
      rintro e w2 ⟨rfl, b2⟩
      have hb2 : Below w.heap.size w w2 := Keeps.step hb.drew b2
      go_wp2_with fail
      go_roundw
      case rel => exact ⟨k + 1, by omega, by go_num, hb2⟩
      case measure => simp [intOf]; omega
    · go_wp2_with fail
      go_ret
      exact ⟨rfl, hb⟩
end Go.Proofs.YteglcjembimegaaDoor
