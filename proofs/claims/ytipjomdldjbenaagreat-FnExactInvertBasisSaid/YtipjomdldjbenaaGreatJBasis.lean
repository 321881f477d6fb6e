/- A term of an element, by the program and by the reference. Condition: sizes up to 2^24. -/
import Derived.Test.YtipjomdldjbenaaGreatJGNrm
import Derived.Test.YtipjomdldjbenaaGreatJLawTerm
namespace Go.Proofs.YtipjomdldjbenaaGreat
open Go.RowKit
set_option maxRecDepth 20000

def basisH (c : List (List Int)) (l : List Int) : List Trm := if isWd c l then [(nform c l, [1])] else []

theorem basisH_total (c : List (List Int)) (l : List Int) : totalT (basisH c l) ≤ l.length + 2 := by
  unfold basisH
  have := nform_le c l
  cases isWd c l <;> simp [totalT, flatT] <;> omega
theorem itRows_one (x y : List Int) : itRows (flatT [(x, y)]) = [.inl x, .inl y] := rfl

/-- A new block of one term of two rows of the call's own, apart from one another. -/
theorem FT.one {W w w' : World} {u v : Value} {x y : List Int} (hu : FI (New W w) w u x) (hv : FI (New W w) w v y) (hd : ∀ b, u.ownBlock = some b → v.ownBlock ≠ some b) (hs : W.heap.size ≤ w.heap.size)
    (hw : w' = w.alloc (.cells #[u, v] 46)) : FT (New W w') w' (.slice (some ⟨w.heap.size, 0, none⟩) 1 1) [(x, y)] := by
  have hb : Below w.heap.size w w' := by rw [hw]; exact (Below.refl _ w).alloc (Nat.le_refl _) _
  have hu' := hu.grow hb
  have hv' := hv.grow hb
  have hrow : w'.ownsRow w.heap.size 46 2 (.slice (some ⟨w.heap.size, 0, none⟩) 1 1) 1 [u, v] := by
    rw [hw]
    exact World.ownsRow_lit (base := w.heap.size) (e := 46) (size := 2) w #[u, v] 1 (Nat.le_refl _) (by unfold maxLen; omega) rfl
  refine ⟨[u, v], own_base hrow (Nat.zero_le _), rfl, fun b hb' => ?_, fun j r z hr hz => ?_, fun i j r r' b hij hr hr' hb' => ?_⟩
  · have := hrow.lt b hb'; exact ⟨by omega, this.2⟩
  · rw [itRows_one] at hz
    match j, hr, hz with
    | 0, hr, hz => simp at hr hz; subst hr; subst hz; exact hu'
    | 1, hr, hz => simp at hr hz; subst hr; subst hz; exact hv'
  · match i, j, hr, hr' with
    | 0, 0, _, _ => exact absurd rfl hij
    | 0, 1, hr, hr' => simp at hr hr'; subst hr; subst hr'; exact hd b hb'
    | 1, 0, hr, hr' => simp at hr hr'; subst hr; subst hr'; exact fun h => hd b h hb'
    | 1, 1, _, _ => exact absurd rfl hij

theorem size_alloc (w : World) (X : Obj) : (w.alloc X).heap.size = w.heap.size + 1 := by simp
theorem FI.lit1 {W w w' : World} {x : Int} (hs : W.heap.size ≤ w.heap.size) (hw : w' = w.alloc (.cells #[.int .i64 x] 3)) : FI (New W w') w' (.slice (some ⟨w.heap.size, 0, none⟩) 1 1) [x] := by
  subst hw
  exact (FI.of_row (w := w) (World.ownsRow_lit (base := w.heap.size) (e := 3) (size := 1) w #[.int .i64 x] 1 (Nat.le_refl _) (by unfold maxLen; omega) rfl) (Nat.le_refl _) rfl rfl).mono (fun b hb => ⟨by have := hb.1; omega, hb.2⟩)

set_option maxHeartbeats 1000000 in
theorem termSpec {S S' : Nat → Prop} {u v : Value} {x y : List Int} {w : World} (h : RI S w u x) (h' : RI S' w v y) (hl : x.length ≤ 16777216) (hl' : y.length ≤ 16777216) :
    Calls Tryz.prog 40 #[u, v] w fun e w' => ∃ p q, e = .returned (.agg #[p, q]) ∧ FI (New w w') w' p x ∧ FI (New w w') w' q y ∧ (∀ b, p.ownBlock = some b → q.ownBlock ≠ some b) ∧ Below w.heap.size w w' := by
  have h := h.old
  have h' := h'.old
  obtain ⟨a, cap, rfl⟩ := h.form
  obtain ⟨a', cap', rfl⟩ := h'.form
  generalize hn : x.length = n at *
  have HX := Lib.hid hn
  generalize hn' : y.length = n' at *
  have HY := Lib.hid hn'
  clear hn hn'
  go_enter Tryz.func40, Tryz.ntmps40
  have HW : Hid True := Lib.hid trivial
  have b1 : Below w.heap.size w (w.alloc (.cells #[.slice none 0 0, .slice none 0 0] 46)) := (Below.refl _ w).alloc (Nat.le_refl _) _
  have z1 : (w.alloc (.cells #[.slice none 0 0, .slice none 0 0] 46)).heap.size = w.heap.size + 1 := size_alloc _ _
  have c10 : (w.alloc (.cells #[.slice none 0 0, .slice none 0 0] 46)).cell? ⟨w.heap.size, 0, none⟩ = some (.slice none 0 0) := by go_simp
  have c11 : (w.alloc (.cells #[.slice none 0 0, .slice none 0 0] 46)).cell? ⟨w.heap.size, 1, none⟩ = some (.slice none 0 0) := by go_simp
  have f10 : (w.alloc (.cells #[.slice none 0 0, .slice none 0 0] 46)).frozen? ⟨w.heap.size, 0, none⟩ = false := by go_simp
  have f11 : (w.alloc (.cells #[.slice none 0 0, .slice none 0 0] 46)).frozen? ⟨w.heap.size, 1, none⟩ = false := by go_simp
  have hx1 := h.below b1
  generalize hW1 : w.alloc (.cells #[.slice none 0 0, .slice none 0 0] 46) = W1 at *
  obtain ⟨f1, b2⟩ := fresh_of (W := W1) (w := W1) (Below.refl _ W1) rfl
  rw [z1] at f1
  go_wp2_with (at_builtin; go_must (refine wpList_app (W := W1) rfl _ _ rfl rfl f1 b2 rfl (hx1.below b2) ?_ ?_))
  · have := HX.out; simp; omega
  · intro p w2 f2 b3 _
    have f2 : FI (New W1 w2) w2 p x := by first | exact f2 | (unfold New; rw [z1]; exact f2)
    have b3 : Below W1.heap.size W1 w2 := by first | exact b3 | (rw [z1]; exact b3)
    have hy2 := (h'.below b1).below b3
    obtain ⟨pa, pc, rfl⟩ := f2.form
    rw [HX.out] at f2 ⊢
    have c10 := (b3.cell (p := ⟨w.heap.size, 0, none⟩) (by simp; omega)).trans c10
    have c11 := (b3.cell (p := ⟨w.heap.size, 1, none⟩) (by simp; omega)).trans c11
    have f10 := (b3.frozen (p := ⟨w.heap.size, 0, none⟩) (by simp; omega)).trans f10
    have f11 := (b3.frozen (p := ⟨w.heap.size, 1, none⟩) (by simp; omega)).trans f11
    obtain ⟨f3, b4⟩ := fresh_of (W := w2) (w := w2) (Below.refl _ w2) rfl
    go_wp2_with (at_builtin; go_must (refine wpList_app (W := w2) rfl _ _ rfl rfl f3 b4 rfl (hy2.below b4) ?_ ?_))
    · have := HY.out; simp; omega
    · intro q w3 f4 b5 _
      have f4 : FI (New w2 w3) w3 q y := f4
      obtain ⟨qa, qc, rfl⟩ := f4.form
      rw [HY.out] at f4 ⊢
      have f2 := f2.below b5
      have z2 := b3.size
      have c10 := (b5.cell (p := ⟨w.heap.size, 0, none⟩) (by simp; omega)).trans c10
      have c11 := (b5.cell (p := ⟨w.heap.size, 1, none⟩) (by simp; omega)).trans c11
      have f10 := (b5.frozen (p := ⟨w.heap.size, 0, none⟩) (by simp; omega)).trans f10
      have f11 := (b5.frozen (p := ⟨w.heap.size, 1, none⟩) (by simp; omega)).trans f11
      go_wp2_with fail
      have z3 := b5.size
      refine bodyPost_ret (v := .agg #[.slice pa n pc, .slice qa n' qc]) (by simp [results, Tryz.results40, go_sem, c10, c11]) rfl ⟨_, _, rfl, ?_, ?_, ?_, ?_⟩
      · have g0 : ¬ New W1 w2 w.heap.size := fun hb => by have := hb.1; omega
        exact ((f2.set _ g0).set _ g0).mono (fun b hb => ⟨by have := hb.1; omega, by simp only [size_setCell]; have := hb.2; omega⟩)
      · have g0 : ¬ New w2 w3 w.heap.size := fun hb => by have := hb.1; omega
        exact ((f4.set _ g0).set _ g0).mono (fun b hb => ⟨by have := hb.1; omega, by simp only [size_setCell]; exact hb.2⟩)
      · intro b hb hb'
        have h1 := (f2.2 b hb).2
        have h2 := (f4.2 b hb').1
        omega
      · exact ((Keeps.step b1 (Keeps.step b3 b5)).setCell (by simp) _).setCell (by simp) _

end Go.Proofs.YtipjomdldjbenaaGreat
