/- The laws' own helpers over terms: pairs of lists of numbers. Condition: sizes up to 2^24. -/
import Derived.Test.YtfpjojlkodglnaaJLawRows
import Derived.Test.YtfpjojlkodglnaaJOpen
import Derived.StillTailTactics
namespace Go.Proofs.Ytfpjojlkodglnaa
open Go.RowKit
set_option maxRecDepth 20000

abbrev Trm := List Int × List Int
def RTrm (S : Nat → Prop) (w : World) (r r' : Value) (x : Trm) : Prop := RI S w r x.1 ∧ RI S w r' x.2
abbrev RT (S : Nat → Prop) := RL2 (some 48) S (RTrm S)
def RTrm0 (w : World) (r r' : Value) (x : Trm) : Prop := RI0 w r x.1 ∧ RI0 w r' x.2
abbrev RT0 := RL2 none Any RTrm0
theorem RT0.below {w w' : World} {v : Value} {L : List Trm} (h : RT0 w v L) (hb : Below w.heap.size w w') : RT0 w' v L :=
  RL2.keep h (fun b _ hl => hb.block b hl) (fun _ _ _ h => ⟨RI0.below h.1 hb, RI0.below h.2 hb⟩)

theorem RT.keep {S : Nat → Prop} {w w' : World} {v : Value} {L : List Trm} (h : RT S w v L) (hb : ∀ b, S b → b < w.heap.size → w'.heap[b]? = w.heap[b]?) : RT S w' v L :=
  RL2.keep h hb (fun _ _ _ h => ⟨RI.keep h.1 hb, RI.keep h.2 hb⟩)
theorem RT.below {S : Nat → Prop} {w w' : World} {v : Value} {L : List Trm} (h : RT S w v L) (hb : Below w.heap.size w w') : RT S w' v L := RT.keep h fun b _ hl => hb.block b hl
theorem RT.drewN {S : Nat → Prop} {w : World} {v : Value} {L : List Trm} (h : RT S w v L) (n : Nat) : RT S (w.drewN n) v L := RT.keep h fun _ _ _ => rfl
theorem RT.any {S : Nat → Prop} {w : World} {v : Value} {L : List Trm} (h : RT S w v L) : RT Any w v L := RL2.mono h (fun _ _ => trivial) (fun _ _ _ h => ⟨RI.any h.1, RI.any h.2⟩)
theorem RT.old {S : Nat → Prop} {w : World} {v : Value} {L : List Trm} (h : RT S w v L) : RT (Bt 0 w.heap.size) w v L := RL2.old h (fun _ _ _ h => ⟨RI.old h.1, RI.old h.2⟩)
theorem RT.only {S S' : Nat → Prop} {w w' : World} {v : Value} {L : List Trm} (h : RT S w v L) (k : Only S' w w') (hd : ∀ b, S b → ¬ S' b) : RT S w' v L := RT.keep h fun b hs _ => k.block b (hd b hs)
theorem RTermW.plain {w : World} {v : Value} {L : List Trm} (h : RL2 none Any RTermW w v L) : RT0 w v L := RL2.mono h (fun _ h => h) (fun _ _ _ h => ⟨RIW.plain h.1, RIW.plain h.2⟩)

/-- All the lists of all terms. -/
def flatT : List Trm → List (List Int)
  | [] => []
  | x :: L => x.1 :: x.2 :: flatT L

theorem flatT_length (L : List Trm) : (flatT L).length = L.length * 2 := by
  induction L with
  | nil => rfl
  | cons x L ih => simp [flatT, ih]; omega

theorem flatT_at (L : List Trm) : ∀ (j : Nat) (x : Trm), L[j]? = some x → (flatT L)[j * 2]? = some x.1 ∧ (flatT L)[j * 2 + 1]? = some x.2 := by
  induction L with
  | nil => intro j x h; simp at h
  | cons y L ih =>
    intro j x h
    cases j with
    | zero => simp at h; subst h; simp [flatT]
    | succ j =>
      simp at h
      have := ih j x h
      rw [show (j + 1) * 2 = j * 2 + 1 + 1 by omega, show j * 2 + 1 + 1 + 1 = (j * 2 + 1) + 1 + 1 by omega]
      simpa [flatT] using this

theorem flatT_set (L : List Trm) : ∀ (j : Nat) (l l' : List Int), ((itRows (flatT L)).set (j * 2) (.inl l)).set (j * 2 + 1) (.inl l') = itRows (flatT (L.set j (l, l'))) := by
  induction L with
  | nil => intro j l c; simp [flatT]
  | cons y L ih =>
    intro j l c
    cases j with
    | zero => simp [flatT]
    | succ j =>
      have := ih j l c
      rw [show (j + 1) * 2 = j * 2 + 1 + 1 by omega]
      simpa [flatT] using this

theorem flatT_take (L : List Trm) : ∀ j, (flatT L).take (j * 2) = flatT (L.take j) := by
  induction L with
  | nil => intro j; simp [flatT]
  | cons y L ih =>
    intro j
    cases j with
    | zero => simp [flatT]
    | succ j =>
      rw [show (j + 1) * 2 = j * 2 + 1 + 1 by omega]
      simp [flatT, ih j]

def totalT (L : List Trm) : Nat := L.length + ((flatT L).map List.length).sum

theorem sumT_take {L : List Trm} {k : Nat} {x : Trm} (h : L[k]? = some x) : ((flatT (L.take (k + 1))).map List.length).sum = ((flatT (L.take k)).map List.length).sum + x.1.length + x.2.length := by
  have h2 := flatT_at L k x h
  rw [← flatT_take, ← flatT_take, show (k + 1) * 2 = k * 2 + 1 + 1 by omega, sum_take h2.2, sum_take h2.1]

theorem term_le {L : List Trm} {x : Trm} (h : x ∈ L) : L.length + x.1.length + x.2.length ≤ totalT L := by
  unfold totalT
  have : x.1.length + x.2.length ≤ ((flatT L).map List.length).sum := by
    induction L with
    | nil => cases h
    | cons y L ih =>
      rcases List.mem_cons.1 h with rfl | h
      · simp only [flatT, List.map_cons, List.sum_cons]; omega
      · have := ih h; simp [flatT]; omega
  omega

/-- A fresh slice of fresh terms. -/
abbrev FT (S : Nat → Prop) (w : World) (v : Value) (L : List Trm) : Prop := FC S 48 2 w v L.length (itRows (flatT L))
theorem FT.below {S : Nat → Prop} {w w' : World} {v : Value} {L : List Trm} (h : FT S w v L) (hb : Below w.heap.size w w') : FT S w' v L := FC.below h hb
theorem FT.only {S S' : Nat → Prop} {w w' : World} {v : Value} {L : List Trm} (h : FT S w v L) (k : Only S' w w') (hd : ∀ b, S b → ¬ S' b) : FT S w' v L := FC.only h k hd

theorem FT.read {S : Nat → Prop} {w : World} {v : Value} {L : List Trm} (h : FT S w v L) : RT S w v L := by
  obtain ⟨vs, h1, h2, h3, h4, _⟩ := h
  have hlen := h1.1
  rcases h1.2 with ⟨rfl, h0⟩ | ⟨g, cap, cur, hv, _, hg, hc⟩
  · have : L = [] := List.eq_nil_of_length_eq_zero h0
    subst this
    exact RL2.nil _ _ (by unfold maxLen; omega)
  · subst hv
    refine ⟨_, _, rfl, ⟨hc.1, hc.2.1⟩, .inr ⟨g, 0, rfl, h3 g rfl, ⟨cur, (0, 0), hg⟩, fun j x hx => ?_⟩⟩
    have hj : j < L.length := by
      rcases Nat.lt_or_ge j L.length with h | h
      · exact h
      · rw [List.getElem?_eq_none h] at hx; cases hx
    obtain ⟨i1, i2⟩ := flatT_at L j x hx
    have k1 := h1.cellAt (j * 2) (by omega)
    have k2 := h1.cellAt (j * 2 + 1) (by omega)
    rw [List.getElem?_eq_getElem (by omega)] at k1 k2
    refine ⟨_, _, by rw [Nat.zero_add]; exact k1, by rw [Nat.zero_add]; exact k2, ?_, ?_⟩
    · exact FI.reads (h4 (j * 2) _ (.inl x.1) (by rw [List.getElem?_eq_getElem (by omega)]) (itRows_at i1))
    · exact FI.reads (h4 (j * 2 + 1) _ (.inl x.2) (by rw [List.getElem?_eq_getElem (by omega)]) (itRows_at i2))
theorem FT.any {S : Nat → Prop} {w : World} {v : Value} {L : List Trm} (h : FT S w v L) : RT Any w v L := RT.any h.read

def szT (q : Int) (n n' : Nat) : Int := szI (szI q n) n'

set_option maxHeartbeats 400000 in
theorem szTerm_any {r r' : Value} {l l' : List Int} {w : World} (h : RI0 w r l) (h' : RI0 w r' l') (q : Int) (h0 : 0 ≤ q) (h1 : q ≤ 1048576) :
    Calls Try.prog 28 #[.agg #[r, r'], .int .i64 q] w fun e w' => (∃ t : Int, e = .returned (.int .i64 t) ∧ (t < 0 ∨ (0 ≤ t ∧ t + (l.length + l'.length : Nat) = q))) ∧ Below w.heap.size w w' := by
  obtain ⟨a, cap, rfl⟩ := h.form
  obtain ⟨a', cap', rfl⟩ := h'.form
  go_enter Try.func28, Try.ntmps28
  go_wp2_with fail
  have bb := ((Below.refl _ w).alloc (Nat.le_refl _) (.cells #[.slice a l.length cap, .slice a' l'.length cap'] 45))
  refine (szIntS_any (h.below bb) q h0 h1).mono ?_
  rintro e w' ⟨rfl, rfl⟩
  by_cases hlt : q < l.length
  · rw [szI, if_pos hlt]
    go_wp2_with fail
    go_ret
    exact ⟨⟨_, rfl, .inl (by omega)⟩, bb⟩
  · rw [szI, if_neg hlt]
    have g1 : 0 ≤ q - (l.length : Int) := by omega
    have g2 : q - (l.length : Int) ≤ 1048576 := by omega
    go_wp2_with fail
    refine (szIntS_any (h'.below bb) _ g1 g2).mono ?_
    rintro e w' ⟨rfl, rfl⟩
    by_cases hlt' : q - (l.length : Int) < l'.length
    · rw [szI, if_pos hlt']
      go_wp2_with fail
      go_ret
      exact ⟨⟨_, rfl, .inl (by omega)⟩, bb⟩
    · rw [szI, if_neg hlt']
      go_wp2_with fail
      go_ret
      exact ⟨⟨_, rfl, .inr (by omega)⟩, bb⟩

set_option maxHeartbeats 400000 in
theorem szTermS_any {v : Value} {L : List Trm} {w : World} (h : RT0 w v L) (q : Int) (h0 : 0 ≤ q) (h1 : q ≤ 1048576) :
    Calls Try.prog 8 #[v, .int .i64 q] w fun e w' => (∃ r : Int, e = .returned (.int .i64 r) ∧ (r < 0 ∨ (0 ≤ r ∧ r + totalT L = q))) ∧ Below w.heap.size w w' := by
  obtain ⟨a, cap, rfl⟩ := h.form
  have hs := h.small
  unfold maxLen at hs
  generalize hn : L.length = n at *
  have H := Lib.hid hn
  clear hn
  by_cases hlt : q < n
  · go_enter Try.func8, Try.ntmps8
    go_wp2_with fail
    go_ret
    exact ⟨⟨_, rfl, .inl (by omega)⟩, Below.refl _ _⟩
  · go_enter Try.func8, Try.ntmps8
    go_wp2_with fail
    go_loopw [1, 5] (fun r i wr => ∃ (k : Nat) (t : Int), k ≤ n ∧ i = .int .i64 k ∧ r = .int .i64 t ∧ 0 ≤ t ∧ t ≤ 1048576 ∧ Hid (t + (n + ((flatT (L.take k)).map List.length).sum : Nat) = q) ∧ Below w.heap.size w wr) (fun _ i _ => n - (intOf i).toNat)
    case atStart => exact ⟨0, _, Nat.zero_le _, rfl, rfl, by omega, by omega, Lib.hid (by simp [flatT]), Below.refl _ _⟩
    case round =>
      obtain ⟨k, t, hk, rfl, rfl, ht0, ht1, HT, hb⟩ := hrel
      by_cases hk' : k < n
      · obtain ⟨b, o, r, r', x, rfl, hc, hc', ⟨hr, hr'⟩, hx⟩ := (h.below hb).at hk'
        obtain ⟨l, l'⟩ := x
        go_wp2_with fail
        refine (szTerm_any hr hr' t ht0 ht1).mono ?_
        rintro e w' ⟨⟨t', rfl, Q⟩, b2⟩
        have hb2 := Keeps.step hb b2
        rcases Q with Q | ⟨Q1, Q2⟩
        · go_wp2_with fail
          go_ret
          exact ⟨⟨_, rfl, .inl (by omega)⟩, hb2⟩
        · have HT2 : Hid (t' + (n + ((flatT (L.take (k + 1))).map List.length).sum : Nat) = q) := by
            refine Lib.hid ?_
            have := HT.out
            rw [sumT_take hx.out]
            show t' + ((n + (_ + l.length + l'.length) : Nat) : Int) = q
            have : ((l.length + l'.length : Nat) : Int) = ((l, l').fst.length + (l, l').snd.length : Nat) := rfl
            omega
          have g2 : t' ≤ 1048576 := by omega
          clear Q2
          go_wp2_with fail
          go_roundw
          case rel => exact ⟨k + 1, t', by omega, by go_num, rfl, by omega, by omega, HT2, hb2⟩
          case measure => simp [intOf]; omega
      · go_wp2_with fail
        go_ret
        refine ⟨⟨t, rfl, .inr ⟨ht0, ?_⟩⟩, hb⟩
        have := HT.out
        have e := H.out
        rw [List.take_of_length_le (by omega)] at this
        unfold totalT
        omega

set_option maxHeartbeats 1000000 in
theorem toTerm_any {r r' : Value} {l l' : List Int} {w : World} (h : RI0 w r l) (h' : RI0 w r' l') (hl : l.length ≤ 16777216) (hl' : l'.length ≤ 16777216) :
    Calls Try.prog 33 #[.agg #[r, r']] w fun e w' => ∃ u u', e = .returned (.agg #[u, u']) ∧ FI (New w w') w' u l ∧ FI (New w w') w' u' l' ∧ (∀ b, u.ownBlock = some b → u'.ownBlock ≠ some b) ∧ Below w.heap.size w w' := by
  obtain ⟨a, cap, rfl⟩ := h.form
  obtain ⟨a', cap', rfl⟩ := h'.form
  go_enter Try.func33, Try.ntmps33
  go_wp2_with fail
  obtain ⟨W1, hW1⟩ : ∃ W1, W1 = ((w.alloc (.cells #[.slice a l.length cap, .slice a' l'.length cap'] 45)).alloc (.cells #[.slice none 0 0, .slice none 0 0] 48)).alloc (.cells #[.slice none 0 0, .slice none 0 0] 48) := ⟨_, rfl⟩
  have b1 : Below w.heap.size w W1 := by
    rw [hW1]
    exact ((((Below.refl _ w).alloc (Nat.le_refl _) _).alloc (by simp) _).alloc (by simp; omega) _)
  have z1 : W1.heap.size = w.heap.size + 3 := by rw [hW1]; simp
  have c01 : W1.cell? ⟨w.heap.size, 1, none⟩ = some (.slice a' l'.length cap') := by rw [hW1]; go_simp
  have c10 : W1.cell? ⟨w.heap.size + 1, 0, none⟩ = some (.slice none 0 0) := by rw [hW1]; go_simp
  have c11 : W1.cell? ⟨w.heap.size + 1, 1, none⟩ = some (.slice none 0 0) := by rw [hW1]; go_simp
  have c20 : W1.cell? ⟨w.heap.size + 1 + 1, 0, none⟩ = some (.slice none 0 0) := by rw [hW1]; go_simp
  have c21 : W1.cell? ⟨w.heap.size + 1 + 1, 1, none⟩ = some (.slice none 0 0) := by rw [hW1]; go_simp
  have f10 : W1.frozen? ⟨w.heap.size + 1, 0, none⟩ = false := by rw [hW1]; go_simp
  have f11 : W1.frozen? ⟨w.heap.size + 1, 1, none⟩ = false := by rw [hW1]; go_simp
  have f20 : W1.frozen? ⟨w.heap.size + 1 + 1, 0, none⟩ = false := by rw [hW1]; go_simp
  have f21 : W1.frozen? ⟨w.heap.size + 1 + 1, 1, none⟩ = false := by rw [hW1]; go_simp
  rw [← hW1]
  clear hW1
  refine (toIntS_any (h.below b1) hl).mono ?_
  rintro e w1 ⟨u, rfl, f, b2⟩
  obtain ⟨ua, uc, rfl⟩ := f.form
  have c01 := (b2.cell (p := ⟨w.heap.size, 1, none⟩) (by simp; omega)).trans c01
  have c10 := (b2.cell (p := ⟨w.heap.size + 1, 0, none⟩) (by simp; omega)).trans c10
  have c11 := (b2.cell (p := ⟨w.heap.size + 1, 1, none⟩) (by simp; omega)).trans c11
  have c20 := (b2.cell (p := ⟨w.heap.size + 1 + 1, 0, none⟩) (by simp; omega)).trans c20
  have c21 := (b2.cell (p := ⟨w.heap.size + 1 + 1, 1, none⟩) (by simp; omega)).trans c21
  have f10 := (b2.frozen (p := ⟨w.heap.size + 1, 0, none⟩) (by simp; omega)).trans f10
  have f11 := (b2.frozen (p := ⟨w.heap.size + 1, 1, none⟩) (by simp; omega)).trans f11
  have f20 := (b2.frozen (p := ⟨w.heap.size + 1 + 1, 0, none⟩) (by simp; omega)).trans f20
  have f21 := (b2.frozen (p := ⟨w.heap.size + 1 + 1, 1, none⟩) (by simp; omega)).trans f21
  have z2 : W1.heap.size ≤ w1.heap.size := b2.size
  obtain ⟨W2, hW2⟩ : ∃ W2, W2 = w1.setCell ⟨w.heap.size + 1 + 1, 0, none⟩ (.slice ua l.length uc) := ⟨_, rfl⟩
  have b3 : Below w.heap.size w W2 := by rw [hW2]; exact (Keeps.step b1 b2).setCell (by simp; omega) _
  have z3 : W2.heap.size = w1.heap.size := by rw [hW2, size_setCell]
  have f : FI (New W1 w1) W2 (.slice ua l.length uc) l := by rw [hW2]; exact f.set _ (fun hb => by have := hb.1; omega)
  have d01 : W2.cell? ⟨w.heap.size, 1, none⟩ = some (.slice a' l'.length cap') := by rw [hW2]; go_simp
  have d10 : W2.cell? ⟨w.heap.size + 1, 0, none⟩ = some (.slice none 0 0) := by rw [hW2]; go_simp
  have d11 : W2.cell? ⟨w.heap.size + 1, 1, none⟩ = some (.slice none 0 0) := by rw [hW2]; go_simp
  have d20 : W2.cell? ⟨w.heap.size + 1 + 1, 0, none⟩ = some (.slice ua l.length uc) := by rw [hW2]; go_simp
  have d21 : W2.cell? ⟨w.heap.size + 1 + 1, 1, none⟩ = some (.slice none 0 0) := by rw [hW2]; go_simp
  have e10 : W2.frozen? ⟨w.heap.size + 1, 0, none⟩ = false := by rw [hW2]; go_simp
  have e11 : W2.frozen? ⟨w.heap.size + 1, 1, none⟩ = false := by rw [hW2]; go_simp
  have e21 : W2.frozen? ⟨w.heap.size + 1 + 1, 1, none⟩ = false := by rw [hW2]; go_simp
  go_wp2_with fail
  rw [← hW2]
  clear hW2 c01 c10 c11 c20 c21 f10 f11 f20 f21
  refine (toIntS_any (h'.below b3) hl').mono ?_
  rintro e w3 ⟨u', rfl, f', b4⟩
  obtain ⟨ua', uc', rfl⟩ := f'.form
  have f := f.below b4
  have d10 := (b4.cell (p := ⟨w.heap.size + 1, 0, none⟩) (by simp; omega)).trans d10
  have d11 := (b4.cell (p := ⟨w.heap.size + 1, 1, none⟩) (by simp; omega)).trans d11
  have d20 := (b4.cell (p := ⟨w.heap.size + 1 + 1, 0, none⟩) (by simp; omega)).trans d20
  have d21 := (b4.cell (p := ⟨w.heap.size + 1 + 1, 1, none⟩) (by simp; omega)).trans d21
  have e10 := (b4.frozen (p := ⟨w.heap.size + 1, 0, none⟩) (by simp; omega)).trans e10
  have e11 := (b4.frozen (p := ⟨w.heap.size + 1, 1, none⟩) (by simp; omega)).trans e11
  have e21 := (b4.frozen (p := ⟨w.heap.size + 1 + 1, 1, none⟩) (by simp; omega)).trans e21
  have z4 : W2.heap.size ≤ w3.heap.size := b4.size
  go_wp2_with fail
  refine bodyPost_ret (v := .agg #[.slice ua l.length uc, .slice ua' l'.length uc']) (by simp [results, Try.results33, go_sem, d10, d11]) rfl ⟨_, _, rfl, ?_, ?_, ?_, ?_⟩
  · have g0 : ∀ x, x < w.heap.size + 3 → ¬ New W1 w1 x := fun x hx hb => by have := hb.1; omega
    refine (((f.set _ (g0 _ (by omega))).set _ (g0 _ (by omega))).set _ (g0 _ (by omega))).mono (fun b hb => ⟨by have := hb.1; omega, by simp only [size_setCell]; have := hb.2; omega⟩)
  · have g0 : ∀ x, x < w.heap.size + 3 → ¬ New W2 w3 x := fun x hx hb => by have := hb.1; omega
    refine (((f'.set _ (g0 _ (by omega))).set _ (g0 _ (by omega))).set _ (g0 _ (by omega))).mono (fun b hb => ⟨by have := hb.1; omega, by simp only [size_setCell]; exact hb.2⟩)
  · intro b hb hb'
    have h1 := (f.2 b hb).2
    have h2 := (f'.2 b hb').1
    omega
  · exact (((Keeps.step b3 b4).setCell (by simp; omega) _).setCell (by simp) _).setCell (by simp) _

theorem infoTrm : (Try.prog.info? 48).map (fun i => (i.zero, i.size, i.bytes)) = some (some (.agg #[.slice none 0 0, .slice none 0 0]), 2, 48) := by kernel_rfl

set_option maxHeartbeats 1000000 in
theorem toTermS_any {v : Value} {L : List Trm} {w : World} (h : RT0 w v L) (hl : totalT L ≤ 16777216) :
    Calls Try.prog 11 #[v] w fun e w' => ∃ u, e = .returned u ∧ FT (New w w') w' u L ∧ Below w.heap.size w w' := by
  obtain ⟨a, cap, rfl⟩ := h.form
  obtain ⟨i0, hi, hz0, hz1, hz2⟩ := info_parts infoTrm
  have hn0 : L.length ≤ 16777216 := by unfold totalT at hl; omega
  generalize hn : L.length = n at *
  have H : Hid (L.length = n) := Lib.hid hn
  clear hn
  go_enter Try.func11, Try.ntmps11
  go_wp2_with (at_make; refine wpList_make_full _ rfl _ _ 27 rfl w.heap.size 48 i0 (.agg #[.slice none 0 0, .slice none 0 0]) 2 Try.underlying27 hi hz0 hz1 _ _ _ _ n rfl rfl rfl rfl ?hb ?hm ?hs ?_)
  case hb => rw [hz2]; omega
  case hm => unfold maxLen; omega
  case hs => exact Nat.le_refl _
  intro w1 hown hgr
  have hb1 : Below w.heap.size w w1 := (Below.refl _ w).grown hgr (Nat.le_refl _) (by simp)
  have hf0 : FC (New w w1) 48 2 w1 (.slice (some ⟨w.heap.size, 0, none⟩) n n) n (itRows (flatT (List.replicate n ([], [])))) := by
    refine FC.of_row hown (Nat.le_refl _) (by simp [itRows, flatT_length, size_madeCells]) (fun j r x hr hx => ?_)
    have hj : j < n * 2 := by
      rcases Nat.lt_or_ge j (n * 2) with h | h
      · exact h
      · rw [List.getElem?_eq_none (by simpa [size_madeCells] using h)] at hr; cases hr
    rw [made_two _ _ _ _ hj] at hr
    have h12 := flatT_at (List.replicate n ([], [])) (j / 2) ([], []) (by rw [List.getElem?_replicate, if_pos (by omega)])
    have hr : r = .slice none 0 0 := by
      by_cases hp : j % 2 = 0
      · rw [if_pos hp] at hr; cases hr; rfl
      · rw [if_neg hp] at hr; cases hr; rfl
    have hx : x = .inl [] := by
      by_cases hp : j % 2 = 0
      · rw [show j = j / 2 * 2 by omega, itRows_at h12.1] at hx; cases hx; rfl
      · rw [show j = j / 2 * 2 + 1 by omega, itRows_at h12.2] at hx; cases hx; rfl
    subst hr
    subst hx
    exact ⟨⟨World.ownsRow_nil _ _ _ _, fun b hb => (by cases hb)⟩, rfl⟩
  clear hgr hi hz0 hz1 hz2 hown
  go_wp2_with fail
  go_loopw [4] (fun i wr => ∃ k : Nat, k ≤ n ∧ i = .int .i64 k ∧ FC (New w wr) 48 2 wr (.slice (some ⟨w.heap.size, 0, none⟩) n n) n (itRows (flatT (L.take k ++ List.replicate (n - k) ([], [])))) ∧ Below w.heap.size w wr)
    (fun i _ => n - (intOf i).toNat)
  case atStart => exact ⟨0, Nat.zero_le _, rfl, by simpa using hf0, hb1⟩
  case round =>
    obtain ⟨k, hk, rfl, hf, hb⟩ := hrel
    by_cases hlt : k < n
    · obtain ⟨b, o, r, r', x, rfl, hc, hc', ⟨hr, hr'⟩, hx⟩ := (h.below hb).at hlt
      obtain ⟨l, l'⟩ := x
      have hll : l.length ≤ 16777216 := by have := term_le (List.mem_of_getElem? hx.out); simp at this; omega
      have hll' : l'.length ≤ 16777216 := by have := term_le (List.mem_of_getElem? hx.out); simp at this; omega
      go_wp2_with fail
      refine (toTerm_any hr hr' hll hll').mono ?_
      rintro e w2 ⟨u, u', rfl, f, f', hdd, b2⟩
      obtain ⟨ua, uc, rfl⟩ := f.form
      obtain ⟨ua', uc', rfl⟩ := f'.form
      have hf2 := hf.below b2
      have hL := H.out
      have hat := flatT_at _ k ([], []) (fill_at (z := (([], []) : Trm)) hL hlt)
      have hlen : (itRows (flatT (L.take k ++ List.replicate (n - k) (([], []) : Trm)))).length = n * 2 := by rw [itRows, List.length_map, flatT_length, fill_len hL hk]
      obtain ⟨y, hcy, _, hfz⟩ := hf2.cell (itRows_at hat.1)
      obtain ⟨y', hcy', _, hfz'⟩ := hf2.cell (itRows_at hat.2)
      have hput : Hid (FC (New w w2) 48 2 ((w2.setCell ⟨w.heap.size, k * 2, none⟩ (.slice ua l.length uc)).setCell ⟨w.heap.size, k * 2 + 1, none⟩ (.slice ua' l'.length uc')) (.slice (some ⟨w.heap.size, 0, none⟩) n n) n (itRows (flatT (L.take (k + 1) ++ List.replicate (n - (k + 1)) ([], []))))) := by
        refine Lib.hid ?_
        have hsz := b2.size
        have hsz' := hb.size
        have hown : w.heap.size < wr.heap.size := by
          obtain ⟨vs, g1, _⟩ := hf
          exact (g1.lt w.heap.size rfl).2
        have old : ∀ (i : Nat) (r1 : Value) (b : Nat), i < n * 2 → w2.cell? ⟨w.heap.size, i, none⟩ = some r1 → r1.ownBlock = some b → b < wr.heap.size := by
          intro i r1 b hil hi hb'
          obtain ⟨x, hx'⟩ : ∃ x, (itRows (flatT (L.take k ++ List.replicate (n - k) (([], []) : Trm))))[i]? = some x := ⟨_, List.getElem?_eq_getElem (by rw [hlen]; exact hil)⟩
          obtain ⟨y', h1, h2, _⟩ := hf.cell hx'
          have h3 := World.cell?_of_block (w := wr) (w' := w2) (a := ⟨w.heap.size, i, none⟩) (b2.block w.heap.size hown)
          rw [h3, h1] at hi
          cases hi
          exact (h2.lt hb').1
        have fresh : ∀ b, (Value.slice ua l.length uc).ownBlock = some b → wr.heap.size ≤ b := fun b hb => (f.2 b hb).1
        have fresh' : ∀ b, (Value.slice ua' l'.length uc').ownBlock = some b → wr.heap.size ≤ b := fun b hb => (f'.2 b hb).1
        have p := FC.put (hf2.mono (S' := New w w2) (fun b hb => ⟨hb.1, by have := hb.2; omega⟩)) (by decide) (j := k * 2) (r := .slice ua l.length uc) (l := l) (by rw [hlen]; omega) (f.mono (fun b hb => ⟨by have := hb.1; omega, hb.2⟩))
          (fun i r' b hi hij hil hbu hb' => by
            have h1 := old i r' b (by rw [← hlen]; exact hil) hi hb'
            have h2 := fresh b hbu
            omega)
        have g0 : ¬ New wr w2 w.heap.size := fun hb => by have := hb.1; omega
        have p2 := FC.put p (by decide) (j := k * 2 + 1) (r := .slice ua' l'.length uc') (l := l') (by rw [List.length_set, hlen]; omega) ((f'.set _ g0).mono (fun b hb => ⟨by have := hb.1; omega, hb.2⟩))
          (fun i r' b hi hij hil hbu hb' => by
            have h2 := fresh' b hbu
            by_cases hik : i = k * 2
            · subst hik
              have e1 : (w2.setCell ⟨w.heap.size, k * 2, none⟩ (.slice ua l.length uc)).cell? ⟨w.heap.size, k * 2, none⟩ = some (.slice ua l.length uc) := World.cell?_setCell_same' _ _ _ (by rw [hcy]; rfl)
              rw [e1] at hi
              cases hi
              exact hdd b hb' hbu
            · have e1 : (w2.setCell ⟨w.heap.size, k * 2, none⟩ (.slice ua l.length uc)).cell? ⟨w.heap.size, i, none⟩ = w2.cell? ⟨w.heap.size, i, none⟩ := cell_setCell_off w2 w.heap.size (k * 2) i _ (by omega)
              rw [e1] at hi
              have h1 := old i r' b (by rw [List.length_set, hlen] at hil; exact hil) hi hb'
              omega)
        rw [flatT_set, take_fill (z := (([], []) : Trm)) hx.out hlt] at p2
        exact p2
      clear hat hf hf2 f f' hr hr' hlen hL hdd
      go_wp2_with fail
      go_roundw
      case rel => exact ⟨k + 1, by omega, by go_num, hput.out.mono (fun b hb => ⟨hb.1, by simp only [size_setCell]; exact hb.2⟩), ((hb.trans (b2.mono hb.size)).setCell (Nat.le_refl _) _).setCell (Nat.le_refl _) _⟩
      case measure => simp [intOf]; omega
    · have hkn : k = n := by omega
      subst hkn
      go_wp2_with fail
      go_ret
      refine ⟨_, rfl, ?_, hb⟩
      have e := H.out
      unfold FT
      rw [e]
      rw [List.take_of_length_le (by omega)] at hf
      simpa using hf

set_option maxHeartbeats 400000 in
theorem eqTerm_same {S S' S2 S2' : Nat → Prop} {r r' q q' : Value} {l l' : List Int} {w : World} (h : RI S w r l) (h2 : RI S2 w q l') (h' : RI S' w r' l) (h2' : RI S2' w q' l') (hl : l.length ≤ 16777216) (hl' : l'.length ≤ 16777216) :
    Calls Try.prog 38 #[.agg #[r, q], .agg #[r', q']] w fun e w' => e = .returned (.bool true) ∧ Below w.heap.size w w' := by
  obtain ⟨a, cap, rfl⟩ := h.form
  obtain ⟨a', cap', rfl⟩ := h'.form
  obtain ⟨a2, cap2, rfl⟩ := h2.form
  obtain ⟨a2', cap2', rfl⟩ := h2'.form
  go_enter Try.func38, Try.ntmps38
  go_wp2_with fail
  have bb := ((Below.refl w.heap.size w).alloc (Nat.le_refl _) (.cells #[.slice a l.length cap, .slice a2 l'.length cap2] 48)).alloc (by simp) (.cells #[.slice a' l.length cap', .slice a2' l'.length cap2'] 48)
  refine (eqIntS_same (h.below bb) (h'.below bb) hl).mono ?_
  rintro e w' ⟨rfl, m, rfl⟩
  go_wp2_with fail
  have bb2 := below_drewN bb m
  refine (eqIntS_same (h2.below bb2) (h2'.below bb2) hl').mono ?_
  rintro e w' ⟨rfl, m2, rfl⟩
  go_wp2_with fail
  go_ret
  exact ⟨rfl, by first | exact below_drewN bb2 m2 | exact below_drewN bb _⟩

set_option maxHeartbeats 400000 in
theorem eqTermS_same {S S' : Nat → Prop} {u v : Value} {L : List Trm} {w : World} (h : RT S w u L) (h' : RT S' w v L) (hl : totalT L ≤ 16777216) :
    Calls Try.prog 14 #[u, v] w fun e w' => e = .returned (.bool true) ∧ Below w.heap.size w w' := by
  obtain ⟨a, cap, rfl⟩ := h.form
  obtain ⟨a', cap', rfl⟩ := h'.form
  have hn0 : L.length ≤ 16777216 := by unfold totalT at hl; omega
  generalize hn : L.length = n at *
  clear hn
  go_enter Try.func14, Try.ntmps14
  go_wp2_with fail
  go_loopw [5] (fun i wr => ∃ k : Nat, k ≤ n ∧ i = .int .i64 k ∧ Below w.heap.size w wr) (fun i _ => n - (intOf i).toNat)
  case atStart => exact ⟨0, Nat.zero_le _, rfl, Below.refl _ _⟩
  case round =>
    obtain ⟨k, hk, rfl, hb⟩ := hrel
    by_cases hlt : k < n
    · obtain ⟨b, o, r, q, x, rfl, hc, hd, ⟨hr, hq⟩, hx⟩ := (h.below hb).at hlt
      obtain ⟨b', o', r', q', x', rfl, hc', hd', ⟨hr', hq'⟩, hx'⟩ := (h'.below hb).at hlt
      have e : x' = x := by have := hx.out.symm.trans hx'.out; simpa using this.symm
      subst e
      obtain ⟨l, l'⟩ := x'
      have hll : l.length ≤ 16777216 := by have := term_le (List.mem_of_getElem? hx.out); simp at this; omega
      have hll' : l'.length ≤ 16777216 := by have := term_le (List.mem_of_getElem? hx.out); simp at this; omega
      have b1 : (k : Int) < (n : Int) := by omega
      go_wp2_with fail
      go_still_tail 8, (by kernel_rfl)
      change wpList _ _ _ _ _ wr.drew
      go_wp2_with fail
      refine (eqTerm_same hr.drew hq.drew hr'.drew hq'.drew hll hll').mono ?_
      rintro e w2 ⟨rfl, b2⟩
      have hb2 : Below w.heap.size w w2 := Keeps.step hb.drew b2
      go_wp2_with fail
      go_roundw
      case rel => exact ⟨k + 1, by omega, by go_num, hb2⟩
      case measure => simp [intOf]; omega
    · go_wp2_with fail
      go_ret
      exact ⟨rfl, hb⟩

set_option maxHeartbeats 1000000 in
theorem markTermS_any {S : Nat → Prop} {v : Value} {L : List Trm} {w : World} (h : FT S w v L) (k : Nat) (hl : totalT L + k ≤ 16777216) :
    Calls Try.prog 18 #[v, .int .i64 k] w fun e w' => e = .returned (.int .i64 ((k + ((flatT L).map List.length).sum : Nat) : Int)) ∧ FC S 48 2 w' v L.length (itRows (marksS k (flatT L))) ∧ Only S w w' := by
  obtain ⟨a, cap, rfl, _⟩ := FC.form h
  have hn0 : L.length ≤ 16777216 := by unfold totalT at hl; omega
  have hFl := flatT_length L
  have hl : ((flatT L).map List.length).sum + k ≤ 16777216 := by unfold totalT at hl; omega
  unfold FT at h
  generalize hn : L.length = n at *
  generalize flatT L = F at *
  have H := Lib.hid hFl
  clear hn hFl
  go_enter Try.func18, Try.ntmps18
  go_wp2_with fail
  go_loopw [1, 5] (fun q i wr => ∃ j : Nat, j ≤ n ∧ i = .int .i64 j ∧ q = .int .i64 ((k + ((F.take (j * 2)).map List.length).sum : Nat) : Int) ∧ FC S 48 2 wr (.slice a n cap) n (itRows (marksS k (F.take (j * 2)) ++ F.drop (j * 2))) ∧ Only S w wr) (fun _ i _ => n - (intOf i).toNat)
  case atStart => exact ⟨0, Nat.zero_le _, rfl, by simp, by simpa [marksS] using h, Only.refl _ _⟩
  case round =>
    obtain ⟨j, hj, rfl, rfl, hf, ho⟩ := hrel
    by_cases hlt : j < n
    · obtain ⟨g, cap', hv, hg⟩ := hf.head (by omega)
      simp only [Value.slice.injEq] at hv
      obtain ⟨rfl, _, rfl⟩ := hv
      obtain ⟨l, hx⟩ : ∃ l, F[j * 2]? = some l := ⟨_, List.getElem?_eq_getElem (by have := H.out; omega)⟩
      obtain ⟨l', hx'⟩ : ∃ l, F[j * 2 + 1]? = some l := ⟨_, List.getElem?_eq_getElem (by have := H.out; omega)⟩
      obtain ⟨r, hc, hr, hro, hturn⟩ := FC.mark_step hf (by decide) hx
      have hs1 := sum_take (f := List.length) hx
      have hs2 := sum_take (f := List.length) hx'
      have hle := sum_take_le (f := List.length) F (j * 2 + 1 + 1)
      have hb1 : l.length + (k + ((F.take (j * 2)).map List.length).sum) ≤ 16777216 := by omega
      have hb2 : l'.length + (k + ((F.take (j * 2 + 1)).map List.length).sum) ≤ 16777216 := by omega
      have hturn := Lib.hid hturn
      have hro := Lib.hid hro
      have HX' := Lib.hid hx'
      have HS1 := Lib.hid hs1
      have HS2 := Lib.hid hs2
      clear hf hx hx' hs1 hs2 hle
      generalize hq : k + ((F.take (j * 2)).map List.length).sum = q at *
      generalize hq2 : k + ((F.take (j * 2 + 1)).map List.length).sum = q2 at *
      have HQ := Lib.hid hq
      have HQ2 := Lib.hid hq2
      have hqq : q + l.length = q2 := by rw [← hq, ← hq2, HS1.out, Nat.add_assoc]
      have HQQ := Lib.hid hqq
      clear hq hq2 hqq
      go_wp2_with fail
      refine (markIntS_any hr q hb1).mono ?_
      rw [HQQ.out]
      rintro e w2 ⟨rfl, f2, o2⟩
      have hf2 := hturn.out w2 o2 f2
      have ho2 := ho.trans (o2.mono hro.out)
      obtain ⟨r', hc', hr', hro', hturn'⟩ := FC.mark_step hf2 (by decide) HX'.out
      rw [HQ2.out] at hturn'
      have hturn' := Lib.hid hturn'
      have hro' := Lib.hid hro'
      clear hr f2 hf2 o2 hc ho
      go_wp2_with fail
      refine (markIntS_any hr' q2 hb2).mono ?_
      rintro e w3 ⟨rfl, f3, o3⟩
      have hf3 := Lib.hid (hturn'.out w3 o3 f3)
      have ho3 := Lib.hid (ho2.trans (o3.mono hro'.out))
      clear hr' f3 o3 ho2 hc'
      generalize hz : ((q2 + l'.length : Nat) : Int) = z at *
      have HZ := Lib.hid hz
      clear hz
      go_wp2_with fail
      go_roundw
      case rel => exact ⟨j + 1, by omega, by go_num, by rw [← HZ.out, ← HQ2.out, show (j + 1) * 2 = j * 2 + 1 + 1 by omega, HS2.out, Nat.add_assoc], by rw [show (j + 1) * 2 = j * 2 + 1 + 1 by omega]; exact hf3.out, ho3.out⟩
      case measure => simp [intOf]; omega
    · have hjn : j = n := by omega
      subst hjn
      have e := H.out
      go_wp2_with fail
      go_ret
      rw [List.take_of_length_le (by omega)] at hf ⊢
      rw [List.drop_eq_nil_of_le (by omega), List.append_nil] at hf
      exact ⟨rfl, hf, ho⟩

set_option maxHeartbeats 1000000 in
theorem heldTermS_any {S : Nat → Prop} {v : Value} {F : List (List Int)} {n : Nat} {w : World} (k : Nat) (h : FC S 48 2 w v n (itRows (marksS k F))) (hFl : F.length = n * 2) (hl : (F.map List.length).sum + k ≤ 16777216) (hn0 : n ≤ 16777216) :
    Calls Try.prog 20 #[v, .int .i64 k] w fun e w' => e = .returned (.int .i64 ((k + (F.map List.length).sum : Nat) : Int)) ∧ ∃ m, w' = w.drewN m := by
  obtain ⟨a, cap, rfl, _⟩ := FC.form h
  have H := Lib.hid hFl
  clear hFl
  go_enter Try.func20, Try.ntmps20
  go_wp2_with fail
  go_loopw [1, 5] (fun q i wr => ∃ j : Nat, j ≤ n ∧ i = .int .i64 j ∧ q = .int .i64 ((k + ((F.take (j * 2)).map List.length).sum : Nat) : Int) ∧ (∃ m, wr = w.drewN m)) (fun _ i _ => n - (intOf i).toNat)
  case atStart => exact ⟨0, Nat.zero_le _, rfl, by simp, dr0⟩
  case round =>
    obtain ⟨j, hj, rfl, rfl, m, hw⟩ := hrel
    have h : FC S 48 2 wr (.slice a n cap) n (itRows (marksS k F)) := by rw [hw]; exact h.keep (fun _ _ _ => rfl)
    have HW := Lib.hid hw
    clear hw
    by_cases hlt : j < n
    · obtain ⟨g, cap', hv, hg⟩ := h.head (by omega)
      simp only [Value.slice.injEq] at hv
      obtain ⟨rfl, _, rfl⟩ := hv
      obtain ⟨l, hx⟩ : ∃ l, F[j * 2]? = some l := ⟨_, List.getElem?_eq_getElem (by have := H.out; omega)⟩
      obtain ⟨l', hx'⟩ : ∃ l, F[j * 2 + 1]? = some l := ⟨_, List.getElem?_eq_getElem (by have := H.out; omega)⟩
      obtain ⟨r, hc, hr, _⟩ := h.cell (itRows_at (marksS_at F k (j * 2) l hx))
      obtain ⟨r', hc', hr', _⟩ := h.cell (itRows_at (marksS_at F k (j * 2 + 1) l' hx'))
      have hr := FI.any (show FI S wr r _ from hr)
      have hr' := FI.any (show FI S wr r' _ from hr')
      have hs1 := sum_take (f := List.length) hx
      have hs2 := sum_take (f := List.length) hx'
      have hle := sum_take_le (f := List.length) F (j * 2 + 1 + 1)
      have hb1 : l.length + (k + ((F.take (j * 2)).map List.length).sum) ≤ 16777216 := by omega
      have hb2 : l'.length + (k + ((F.take (j * 2 + 1)).map List.length).sum) ≤ 16777216 := by omega
      have HS1 := Lib.hid hs1
      have HS2 := Lib.hid hs2
      clear hx hx' hs1 hs2 hle
      generalize hq1 : k + ((F.take (j * 2)).map List.length).sum = q1 at *
      generalize hq : k + ((F.take (j * 2 + 1)).map List.length).sum = q at *
      have hqq : q1 + l.length = q := by rw [← hq1, ← hq, HS1.out, Nat.add_assoc]
      have HQQ := Lib.hid hqq
      clear hq1 hqq
      have HQ0 := Lib.hid hq
      clear hq
      go_wp2_with fail
      refine (heldIntS_any q1 l.length hr hb1).mono ?_
      rw [HQQ.out]
      rintro e w2 ⟨rfl, m2, hw2⟩
      have hr' := hr'.drewN m2
      have hc' : w2.cell? ⟨g, j * 2 + 1, none⟩ = some r' := by rw [hw2]; exact hc'
      rw [← hw2] at hr'
      have HQ := HQ0
      have HW2 := Lib.hid hw2
      clear hw2
      go_wp2_with fail
      refine (heldIntS_any q l'.length hr' hb2).mono ?_
      rintro e w3 ⟨rfl, m3, hw3⟩
      have HW3 := Lib.hid hw3
      clear hw3
      have g0 : 0 ≤ ((q + l'.length : Nat) : Int) := by omega
      generalize hz : ((q + l'.length : Nat) : Int) = z at *
      have HZ := Lib.hid hz
      clear hz
      go_wp2_with fail
      go_roundw
      case rel =>
        refine ⟨j + 1, by omega, by go_num, ?_, m + m2 + m3, by rw [HW3.out, HW2.out, HW.out]; simp⟩
        rw [show (j + 1) * 2 = j * 2 + 1 + 1 by omega, HS2.out, ← HZ.out, ← HQ.out, Nat.add_assoc]
      case measure => simp [intOf]; omega
    · have hjn : j = n := by omega
      subst hjn
      have e := H.out
      go_wp2_with fail
      go_ret
      rw [List.take_of_length_le (by omega)]
      exact ⟨rfl, m, HW.out⟩

theorem markTermS_f {S : Nat → Prop} {v : Value} {L : List Trm} {w : World} (h : FT S w v L) (k : Nat) (hl : totalT L + k ≤ 16777216) :
    Calls Try.prog 18 #[v, .int .i64 k] w fun e w' => e = .returned (.int .i64 ((k + ((flatT L).map List.length).sum : Nat) : Int)) ∧ FC S 48 2 w' v L.length (itRows (marksS k (flatT L))) ∧ Only S w w' := markTermS_any h k hl

theorem heldTermS_f {S : Nat → Prop} {v : Value} {L : List Trm} {w : World} {k : Nat} (h : FC S 48 2 w v L.length (itRows (marksS k (flatT L)))) (hl : totalT L + k ≤ 16777216) :
    Calls Try.prog 20 #[v, .int .i64 k] w fun e w' => e = .returned (.int .i64 ((k + ((flatT L).map List.length).sum : Nat) : Int)) ∧ ∃ m, w' = w.drewN m :=
  heldTermS_any k h (flatT_length L) (by unfold totalT at hl; omega) (by unfold totalT at hl; omega)

theorem marked_leT (L : List Trm) : ((flatT L).map List.length).sum ≤ totalT L := by unfold totalT; omega
end Go.Proofs.Ytfpjojlkodglnaa
