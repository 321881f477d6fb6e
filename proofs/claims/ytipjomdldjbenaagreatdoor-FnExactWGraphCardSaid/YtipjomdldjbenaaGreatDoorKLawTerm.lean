/- The laws' own helpers over terms: pairs of lists of numbers. Condition: sizes up to 2^24. -/
import Derived.Test.YtipjomdldjbenaaGreatDoorKGOp
import Derived.StillTailTactics
namespace Go.Proofs.YtipjomdldjbenaaGreatDoor
open Go.RowKit
set_option maxRecDepth 20000

abbrev Trm := List Int × List Int
def RTrm (S : Nat → Prop) (w : World) (r r' : Value) (x : Trm) : Prop := RI S w r x.1 ∧ RI S w r' x.2
abbrev RT (S : Nat → Prop) := RL2 (some 73) S (RTrm S)
def RTrm0 (w : World) (r r' : Value) (x : Trm) : Prop := RI0 w r x.1 ∧ RI0 w r' x.2
abbrev RT0 := RL2 none Any RTrm0
theorem RT0.below {w w' : World} {v : Value} {L : List Trm} (h : RT0 w v L) (hb : Below w.heap.size w w') : RT0 w' v L :=
  RL2.keep h (fun b _ hl => hb.block b hl) (fun _ _ _ h => ⟨RI0.below h.1 hb, RI0.below h.2 hb⟩)

theorem RT.keep {S : Nat → Prop} {w w' : World} {v : Value} {L : List Trm} (h : RT S w v L) (hb : ∀ b, S b → b < w.heap.size → w'.heap[b]? = w.heap[b]?) : RT S w' v L :=
  RL2.keep h hb (fun _ _ _ h => ⟨RI.keep h.1 hb, RI.keep h.2 hb⟩)
theorem RT.below {S : Nat → Prop} {w w' : World} {v : Value} {L : List Trm} (h : RT S w v L) (hb : Below w.heap.size w w') : RT S w' v L := RT.keep h fun b _ hl => hb.block b hl
theorem RT.drewN {S : Nat → Prop} {w : World} {v : Value} {L : List Trm} (h : RT S w v L) (n : Nat) : RT S (w.drewN n) v L := RT.keep h fun _ _ _ => rfl
theorem RT.any {S : Nat → Prop} {w : World} {v : Value} {L : List Trm} (h : RT S w v L) : RT Any w v L := RL2.mono h (fun _ _ => trivial) (fun _ _ _ h => ⟨RI.any h.1, RI.any h.2⟩)
theorem RT.old {S : Nat → Prop} {w : World} {v : Value} {L : List Trm} (h : RT S w v L) : RT (Bt 0 w.heap.size) w v L := RL2.old h (fun _ _ _ h => ⟨RI.old h.1, RI.old h.2⟩)
theorem RT.only {S S' : Nat → Prop} {w w' : World} {v : Value} {L : List Trm} (h : RT S w v L) (k : Only S' w w') (hd : ∀ b, S b → ¬ S' b) : RT S w' v L := RT.keep h fun b hs _ => k.block b (hd b hs)
theorem RTermW.plain {w : World} {v : Value} {L : List Trm} (h : RL2 none Any RTermW w v L) : RT0 w v L := RL2.mono h (fun _ h => h) (fun _ _ _ h => ⟨RIW.plain h.1, RIW.plain h.2⟩)

/-- All the lists of all terms. -/
def flatT : List Trm → List (List Int)
  | [] => []
  | x :: L => x.1 :: x.2 :: flatT L

theorem flatT_length (L : List Trm) : (flatT L).length = L.length * 2 := by
  induction L with
  | nil => rfl
  | cons x L ih => simp [flatT, ih]; omega

theorem flatT_at (L : List Trm) : ∀ (j : Nat) (x : Trm), L[j]? = some x → (flatT L)[j * 2]? = some x.1 ∧ (flatT L)[j * 2 + 1]? = some x.2 := by
  induction L with
  | nil => intro j x h; simp at h
  | cons y L ih =>
    intro j x h
    cases j with
    | zero => simp at h; subst h; simp [flatT]
    | succ j =>
      simp at h
      have := ih j x h
      rw [show (j + 1) * 2 = j * 2 + 1 + 1 by omega, show j * 2 + 1 + 1 + 1 = (j * 2 + 1) + 1 + 1 by omega]
      simpa [flatT] using this

def totalT (L : List Trm) : Nat := L.length + ((flatT L).map List.length).sum

theorem term_le {L : List Trm} {x : Trm} (h : x ∈ L) : L.length + x.1.length + x.2.length ≤ totalT L := by
  unfold totalT
  have : x.1.length + x.2.length ≤ ((flatT L).map List.length).sum := by
    induction L with
    | nil => cases h
    | cons y L ih =>
      rcases List.mem_cons.1 h with rfl | h
      · simp only [flatT, List.map_cons, List.sum_cons]; omega
      · have := ih h; simp [flatT]; omega
  omega

/-- A fresh slice of fresh terms. -/
abbrev FT (S : Nat → Prop) (w : World) (v : Value) (L : List Trm) : Prop := FC S 73 2 w v L.length (itRows (flatT L))
theorem FT.below {S : Nat → Prop} {w w' : World} {v : Value} {L : List Trm} (h : FT S w v L) (hb : Below w.heap.size w w') : FT S w' v L := FC.below h hb
theorem FT.only {S S' : Nat → Prop} {w w' : World} {v : Value} {L : List Trm} (h : FT S w v L) (k : Only S' w w') (hd : ∀ b, S b → ¬ S' b) : FT S w' v L := FC.only h k hd

theorem FT.read {S : Nat → Prop} {w : World} {v : Value} {L : List Trm} (h : FT S w v L) : RT S w v L := by
  obtain ⟨vs, h1, h2, h3, h4, _⟩ := h
  have hlen := h1.1
  rcases h1.2 with ⟨rfl, h0⟩ | ⟨g, cap, cur, hv, _, hg, hc⟩
  · have : L = [] := List.eq_nil_of_length_eq_zero h0
    subst this
    exact RL2.nil _ _ (by unfold maxLen; omega)
  · subst hv
    refine ⟨_, _, rfl, ⟨hc.1, hc.2.1⟩, .inr ⟨g, 0, rfl, h3 g rfl, ⟨cur, (0, 0), hg⟩, fun j x hx => ?_⟩⟩
    have hj : j < L.length := by
      rcases Nat.lt_or_ge j L.length with h | h
      · exact h
      · rw [List.getElem?_eq_none h] at hx; cases hx
    obtain ⟨i1, i2⟩ := flatT_at L j x hx
    have k1 := h1.cellAt (j * 2) (by omega)
    have k2 := h1.cellAt (j * 2 + 1) (by omega)
    rw [List.getElem?_eq_getElem (by omega)] at k1 k2
    refine ⟨_, _, by rw [Nat.zero_add]; exact k1, by rw [Nat.zero_add]; exact k2, ?_, ?_⟩
    · exact FI.reads (h4 (j * 2) _ (.inl x.1) (by rw [List.getElem?_eq_getElem (by omega)]) (itRows_at i1))
    · exact FI.reads (h4 (j * 2 + 1) _ (.inl x.2) (by rw [List.getElem?_eq_getElem (by omega)]) (itRows_at i2))
theorem FT.any {S : Nat → Prop} {w : World} {v : Value} {L : List Trm} (h : FT S w v L) : RT Any w v L := RT.any h.read

set_option maxHeartbeats 400000 in
theorem eqTerm_same {S S' S2 S2' : Nat → Prop} {r r' q q' : Value} {l l' : List Int} {w : World} (h : RI S w r l) (h2 : RI S2 w q l') (h' : RI S' w r' l) (h2' : RI S2' w q' l') (hl : l.length ≤ 16777216) (hl' : l'.length ≤ 16777216) :
    Calls Tryz.prog 79 #[.agg #[r, q], .agg #[r', q']] w fun e w' => e = .returned (.bool true) ∧ Below w.heap.size w w' := by
  obtain ⟨a, cap, rfl⟩ := h.form
  obtain ⟨a', cap', rfl⟩ := h'.form
  obtain ⟨a2, cap2, rfl⟩ := h2.form
  obtain ⟨a2', cap2', rfl⟩ := h2'.form
  go_enter Tryz.func79, Tryz.ntmps79
  go_wp2_with fail
  have bb := ((Below.refl w.heap.size w).alloc (Nat.le_refl _) (.cells #[.slice a l.length cap, .slice a2 l'.length cap2] 73)).alloc (by simp) (.cells #[.slice a' l.length cap', .slice a2' l'.length cap2'] 73)
  refine (eqIntS_same (h.below bb) (h'.below bb) hl).mono ?_
  rintro e w' ⟨rfl, m, rfl⟩
  go_wp2_with fail
  have bb2 := below_drewN bb m
  refine (eqIntS_same (h2.below bb2) (h2'.below bb2) hl').mono ?_
  rintro e w' ⟨rfl, m2, rfl⟩
  go_wp2_with fail
  go_ret
  exact ⟨rfl, by first | exact below_drewN bb2 m2 | exact below_drewN bb _⟩

set_option maxHeartbeats 400000 in
theorem eqTermS_same {S S' : Nat → Prop} {u v : Value} {L : List Trm} {w : World} (h : RT S w u L) (h' : RT S' w v L) (hl : totalT L ≤ 16777216) :
    Calls Tryz.prog 41 #[u, v] w fun e w' => e = .returned (.bool true) ∧ Below w.heap.size w w' := by
  obtain ⟨a, cap, rfl⟩ := h.form
  obtain ⟨a', cap', rfl⟩ := h'.form
  have hn0 : L.length ≤ 16777216 := by unfold totalT at hl; omega
  generalize hn : L.length = n at *
  clear hn
  go_enter Tryz.func41, Tryz.ntmps41
  go_wp2_with fail
  go_loopw [5] (fun i wr => ∃ k : Nat, k ≤ n ∧ i = .int .i64 k ∧ Below w.heap.size w wr) (fun i _ => n - (intOf i).toNat)
  case atStart => exact ⟨0, Nat.zero_le _, rfl, Below.refl _ _⟩
  case round =>
    obtain ⟨k, hk, rfl, hb⟩ := hrel
    by_cases hlt : k < n
    · obtain ⟨b, o, r, q, x, rfl, hc, hd, ⟨hr, hq⟩, hx⟩ := (h.below hb).at hlt
      obtain ⟨b', o', r', q', x', rfl, hc', hd', ⟨hr', hq'⟩, hx'⟩ := (h'.below hb).at hlt
      have e : x' = x := by have := hx.out.symm.trans hx'.out; simpa using this.symm
      subst e
      obtain ⟨l, l'⟩ := x'
      have hll : l.length ≤ 16777216 := by have := term_le (List.mem_of_getElem? hx.out); simp at this; omega
      have hll' : l'.length ≤ 16777216 := by have := term_le (List.mem_of_getElem? hx.out); simp at this; omega
      have b1 : (k : Int) < (n : Int) := by omega
      go_wp2_with fail
      go_still_tail 8, (by kernel_rfl)
      change wpList _ _ _ _ _ wr.drew
      go_wp2_with fail
      refine (eqTerm_same hr.drew hq.drew hr'.drew hq'.drew hll hll').mono ?_
      rintro e w2 ⟨rfl, b2⟩
      have hb2 : Below w.heap.size w w2 := Keeps.step hb.drew b2
      go_wp2_with fail
      go_roundw
      case rel => exact ⟨k + 1, by omega, by go_num, hb2⟩
      case measure => simp [intOf]; omega
    · go_wp2_with fail
      go_ret
      exact ⟨rfl, hb⟩

set_option maxHeartbeats 1000000 in
theorem markTermS_any {S : Nat → Prop} {v : Value} {L : List Trm} {w : World} (h : FT S w v L) (k : Nat) (hl : totalT L + k ≤ 16777216) :
    Calls Tryz.prog 42 #[v, .int .i64 k] w fun e w' => e = .returned (.int .i64 ((k + ((flatT L).map List.length).sum : Nat) : Int)) ∧ FC S 73 2 w' v L.length (itRows (marksS k (flatT L))) ∧ Only S w w' := by
  obtain ⟨a, cap, rfl, _⟩ := FC.form h
  have hn0 : L.length ≤ 16777216 := by unfold totalT at hl; omega
  have hFl := flatT_length L
  have hl : ((flatT L).map List.length).sum + k ≤ 16777216 := by unfold totalT at hl; omega
  unfold FT at h
  generalize hn : L.length = n at *
  generalize flatT L = F at *
  have H := Lib.hid hFl
  clear hn hFl
  go_enter Tryz.func42, Tryz.ntmps42
  go_wp2_with fail
  go_loopw [1, 5] (fun q i wr => ∃ j : Nat, j ≤ n ∧ i = .int .i64 j ∧ q = .int .i64 ((k + ((F.take (j * 2)).map List.length).sum : Nat) : Int) ∧ FC S 73 2 wr (.slice a n cap) n (itRows (marksS k (F.take (j * 2)) ++ F.drop (j * 2))) ∧ Only S w wr) (fun _ i _ => n - (intOf i).toNat)
  case atStart => exact ⟨0, Nat.zero_le _, rfl, by simp, by simpa [marksS] using h, Only.refl _ _⟩
  case round =>
    obtain ⟨j, hj, rfl, rfl, hf, ho⟩ := hrel
    by_cases hlt : j < n
    · obtain ⟨g, cap', hv, hg⟩ := hf.head (by omega)
      simp only [Value.slice.injEq] at hv
      obtain ⟨rfl, _, rfl⟩ := hv
      obtain ⟨l, hx⟩ : ∃ l, F[j * 2]? = some l := ⟨_, List.getElem?_eq_getElem (by have := H.out; omega)⟩
      obtain ⟨l', hx'⟩ : ∃ l, F[j * 2 + 1]? = some l := ⟨_, List.getElem?_eq_getElem (by have := H.out; omega)⟩
      obtain ⟨r, hc, hr, hro, hturn⟩ := FC.mark_step hf (by decide) hx
      have hs1 := sum_take (f := List.length) hx
      have hs2 := sum_take (f := List.length) hx'
      have hle := sum_take_le (f := List.length) F (j * 2 + 1 + 1)
      have hb1 : l.length + (k + ((F.take (j * 2)).map List.length).sum) ≤ 16777216 := by omega
      have hb2 : l'.length + (k + ((F.take (j * 2 + 1)).map List.length).sum) ≤ 16777216 := by omega
      have hturn := Lib.hid hturn
      have hro := Lib.hid hro
      have HX' := Lib.hid hx'
      have HS1 := Lib.hid hs1
      have HS2 := Lib.hid hs2
      clear hf hx hx' hs1 hs2 hle
      generalize hq : k + ((F.take (j * 2)).map List.length).sum = q at *
      generalize hq2 : k + ((F.take (j * 2 + 1)).map List.length).sum = q2 at *
      have HQ := Lib.hid hq
      have HQ2 := Lib.hid hq2
      have hqq : q + l.length = q2 := by rw [← hq, ← hq2, HS1.out, Nat.add_assoc]
      have HQQ := Lib.hid hqq
      clear hq hq2 hqq
      go_wp2_with fail
      refine (markIntS_any hr q hb1).mono ?_
      rw [HQQ.out]
      rintro e w2 ⟨rfl, f2, o2⟩
      have hf2 := hturn.out w2 o2 f2
      have ho2 := ho.trans (o2.mono hro.out)
      obtain ⟨r', hc', hr', hro', hturn'⟩ := FC.mark_step hf2 (by decide) HX'.out
      rw [HQ2.out] at hturn'
      have hturn' := Lib.hid hturn'
      have hro' := Lib.hid hro'
      clear hr f2 hf2 o2 hc ho
      go_wp2_with fail
      refine (markIntS_any hr' q2 hb2).mono ?_
      rintro e w3 ⟨rfl, f3, o3⟩
      have hf3 := Lib.hid (hturn'.out w3 o3 f3)
      have ho3 := Lib.hid (ho2.trans (o3.mono hro'.out))
      clear hr' f3 o3 ho2 hc'
      generalize hz : ((q2 + l'.length : Nat) : Int) = z at *
      have HZ := Lib.hid hz
      clear hz
      go_wp2_with fail
      go_roundw
      case rel => exact ⟨j + 1, by omega, by go_num, by rw [← HZ.out, ← HQ2.out, show (j + 1) * 2 = j * 2 + 1 + 1 by omega, HS2.out, Nat.add_assoc], by rw [show (j + 1) * 2 = j * 2 + 1 + 1 by omega]; exact hf3.out, ho3.out⟩
      case measure => simp [intOf]; omega
    · have hjn : j = n := by omega
      subst hjn
      have e := H.out
      go_wp2_with fail
      go_ret
      rw [List.take_of_length_le (by omega)] at hf ⊢
      rw [List.drop_eq_nil_of_le (by omega), List.append_nil] at hf
      exact ⟨rfl, hf, ho⟩

set_option maxHeartbeats 1000000 in
theorem heldTermS_any {S : Nat → Prop} {v : Value} {F : List (List Int)} {n : Nat} {w : World} (k : Nat) (h : FC S 73 2 w v n (itRows (marksS k F))) (hFl : F.length = n * 2) (hl : (F.map List.length).sum + k ≤ 16777216) (hn0 : n ≤ 16777216) :
    Calls Tryz.prog 43 #[v, .int .i64 k] w fun e w' => e = .returned (.int .i64 ((k + (F.map List.length).sum : Nat) : Int)) ∧ ∃ m, w' = w.drewN m := by
  obtain ⟨a, cap, rfl, _⟩ := FC.form h
  have H := Lib.hid hFl
  clear hFl
  go_enter Tryz.func43, Tryz.ntmps43
  go_wp2_with fail
  go_loopw [1, 5] (fun q i wr => ∃ j : Nat, j ≤ n ∧ i = .int .i64 j ∧ q = .int .i64 ((k + ((F.take (j * 2)).map List.length).sum : Nat) : Int) ∧ (∃ m, wr = w.drewN m)) (fun _ i _ => n - (intOf i).toNat)
  case atStart => exact ⟨0, Nat.zero_le _, rfl, by simp, dr0⟩
  case round =>
    obtain ⟨j, hj, rfl, rfl, m, hw⟩ := hrel
    have h : FC S 73 2 wr (.slice a n cap) n (itRows (marksS k F)) := by rw [hw]; exact h.keep (fun _ _ _ => rfl)
    have HW := Lib.hid hw
    clear hw
    by_cases hlt : j < n
    · obtain ⟨g, cap', hv, hg⟩ := h.head (by omega)
      simp only [Value.slice.injEq] at hv
      obtain ⟨rfl, _, rfl⟩ := hv
      obtain ⟨l, hx⟩ : ∃ l, F[j * 2]? = some l := ⟨_, List.getElem?_eq_getElem (by have := H.out; omega)⟩
      obtain ⟨l', hx'⟩ : ∃ l, F[j * 2 + 1]? = some l := ⟨_, List.getElem?_eq_getElem (by have := H.out; omega)⟩
      obtain ⟨r, hc, hr, _⟩ := h.cell (itRows_at (marksS_at F k (j * 2) l hx))
      obtain ⟨r', hc', hr', _⟩ := h.cell (itRows_at (marksS_at F k (j * 2 + 1) l' hx'))
      have hr := FI.any (show FI S wr r _ from hr)
      have hr' := FI.any (show FI S wr r' _ from hr')
      have hs1 := sum_take (f := List.length) hx
      have hs2 := sum_take (f := List.length) hx'
      have hle := sum_take_le (f := List.length) F (j * 2 + 1 + 1)
      have hb1 : l.length + (k + ((F.take (j * 2)).map List.length).sum) ≤ 16777216 := by omega
      have hb2 : l'.length + (k + ((F.take (j * 2 + 1)).map List.length).sum) ≤ 16777216 := by omega
      have HS1 := Lib.hid hs1
      have HS2 := Lib.hid hs2
      clear hx hx' hs1 hs2 hle
      generalize hq1 : k + ((F.take (j * 2)).map List.length).sum = q1 at *
      generalize hq : k + ((F.take (j * 2 + 1)).map List.length).sum = q at *
      have hqq : q1 + l.length = q := by rw [← hq1, ← hq, HS1.out, Nat.add_assoc]
      have HQQ := Lib.hid hqq
      clear hq1 hqq
      have HQ0 := Lib.hid hq
      clear hq
      go_wp2_with fail
      refine (heldIntS_any q1 l.length hr hb1).mono ?_
      rw [HQQ.out]
      rintro e w2 ⟨rfl, m2, hw2⟩
      have hr' := hr'.drewN m2
      have hc' : w2.cell? ⟨g, j * 2 + 1, none⟩ = some r' := by rw [hw2]; exact hc'
      rw [← hw2] at hr'
      have HQ := HQ0
      have HW2 := Lib.hid hw2
      clear hw2
      go_wp2_with fail
      refine (heldIntS_any q l'.length hr' hb2).mono ?_
      rintro e w3 ⟨rfl, m3, hw3⟩
      have HW3 := Lib.hid hw3
      clear hw3
      have g0 : 0 ≤ ((q + l'.length : Nat) : Int) := by omega
      generalize hz : ((q + l'.length : Nat) : Int) = z at *
      have HZ := Lib.hid hz
      clear hz
      go_wp2_with fail
      go_roundw
      case rel =>
        refine ⟨j + 1, by omega, by go_num, ?_, m + m2 + m3, by rw [HW3.out, HW2.out, HW.out]; simp⟩
        rw [show (j + 1) * 2 = j * 2 + 1 + 1 by omega, HS2.out, ← HZ.out, ← HQ.out, Nat.add_assoc]
      case measure => simp [intOf]; omega
    · have hjn : j = n := by omega
      subst hjn
      have e := H.out
      go_wp2_with fail
      go_ret
      rw [List.take_of_length_le (by omega)]
      exact ⟨rfl, m, HW.out⟩

theorem markTermS_f {S : Nat → Prop} {v : Value} {L : List Trm} {w : World} (h : FT S w v L) (k : Nat) (hl : totalT L + k ≤ 16777216) :
    Calls Tryz.prog 42 #[v, .int .i64 k] w fun e w' => e = .returned (.int .i64 ((k + ((flatT L).map List.length).sum : Nat) : Int)) ∧ FC S 73 2 w' v L.length (itRows (marksS k (flatT L))) ∧ Only S w w' := markTermS_any h k hl

theorem heldTermS_f {S : Nat → Prop} {v : Value} {L : List Trm} {w : World} {k : Nat} (h : FC S 73 2 w v L.length (itRows (marksS k (flatT L)))) (hl : totalT L + k ≤ 16777216) :
    Calls Tryz.prog 43 #[v, .int .i64 k] w fun e w' => e = .returned (.int .i64 ((k + ((flatT L).map List.length).sum : Nat) : Int)) ∧ ∃ m, w' = w.drewN m :=
  heldTermS_any k h (flatT_length L) (by unfold totalT at hl; omega) (by unfold totalT at hl; omega)

theorem marked_leT (L : List Trm) : ((flatT L).map List.length).sum ≤ totalT L := by unfold totalT; omega
end Go.Proofs.YtipjomdldjbenaaGreatDoor
