/- A list of terms that may not be an element, by the program and by the reference. Condition: sizes up to 2^24. AddHecke of the reference. Condition: sizes up to 2^20. slices.Concat of two lists of terms. Condition: at most 2^20 terms each. AddHecke of the program. Condition: sizes up to 2^20. -/
import Derived.Test.YtfpjojlkodglnaaJGHecke
import Derived.Test.YtfpjojlkodglnaaJIsHecke
import Derived.Test.YtfpjojlkodglnaaJOpen
import Derived.Test.YtfpjojlkodglnaaJGTerms
/-! A list of terms that may not be an element, by the program and by the reference. Condition: sizes up to 2^24. -/
namespace Go.Proofs.Ytfpjojlkodglnaa
open Go.RowKit
set_option maxRecDepth 20000

theorem termW_in {w : World} {v : Value} {L : List Trm} (h : RL2 none Any RTermW w v L) : ∀ t ∈ L, InI t.2 := by
  intro x hx
  obtain ⟨a, cap, _, _, h⟩ := h
  rcases h with h | ⟨b, o, _, _, _, h⟩
  · subst h; cases hx
  · obtain ⟨j, hj⟩ := List.getElem?_of_mem hx
    obtain ⟨r, r', _, _, h2⟩ := h j x hj
    intro y hy
    have := RIW.wf h2.2 y hy
    simp only [I64, Lit.wf, Bool.and_eq_true, decide_eq_true_eq] at this
    rw [show IntKind.i64.min = -9223372036854775808 from rfl, show IntKind.i64.max = 9223372036854775807 from rfl] at this
    exact this

/-- The list, if it is an element. -/
def gd (c : List (List Int)) (L : List Trm) : List Trm := if isHk c L = true then L else []

set_option maxHeartbeats 1000000 in
theorem goodSpec {S : Nat → Prop} {u v : Value} {c : List (List Int)} {L : List Trm} {W w : World} (h : RII S w u c) (hf : FT (New W w) w v L) (hW : Below W.heap.size W w) (hl : total c ≤ 16777216) (hl' : totalT L ≤ 16777216) :
    Calls Try.prog 40 #[u, v] w fun e w' => ∃ a k, e = .returned (.tuple #[.slice a (gd c L).length k, .bool (isHk c L)]) ∧ FT (New W w') w' (.slice a (gd c L).length k) (gd c L) ∧ Below W.heap.size W w' := by
  have hH := isHeckeSpec h hf.any hl hl'
  obtain ⟨au, cu, rfl⟩ := h.form
  obtain ⟨a, cap, rfl, _⟩ := FC.form hf
  have HY : Hid (isHk c L = true → gd c L = L) := Lib.hid (fun h => by unfold gd; rw [if_pos h])
  have HN : Hid (isHk c L = false → gd c L = []) := Lib.hid (fun h => by unfold gd; rw [if_neg (by rw [h]; simp)])
  generalize hg : gd c L = G at *
  clear hg
  generalize isHk c L = q at *
  cases q
  · have E0 := Lib.hid (HN.out rfl)
    go_enter Try.func40, Try.ntmps40
    go_wp2_with fail
    refine hH.mono ?_
    rintro e w1 ⟨rfl, b1⟩
    have b2 := Keeps.step hW b1
    go_wp2_with fail
    go_ret2
    rw [E0.out]
    exact ⟨_, _, rfl, FT.none0 b2, b2.alloc b2.size _⟩
  · have E0 := Lib.hid (HY.out rfl)
    go_enter Try.func40, Try.ntmps40
    go_wp2_with fail
    refine hH.mono ?_
    rintro e w1 ⟨rfl, b1⟩
    have b2 := Keeps.step hW b1
    have hf1 := FC.grow hf b1
    go_wp2_with fail
    go_ret2
    rw [E0.out]
    exact ⟨_, _, rfl, hf1, b2⟩

set_option maxHeartbeats 1000000 in
theorem checkedImpl {S : Nat → Prop} {u v : Value} {c : List (List Int)} {L : List Trm} {W w : World} (h : RII S w u c) (hf : FT (New W w) w v L) (hW : Below W.heap.size W w) (hl : total c ≤ 16777216) (hl' : totalT L ≤ 16777216) :
    Calls Try.prog 41 #[u, v] w fun e w' => ∃ a k, e = .returned (.tuple #[.slice a (gd c L).length k, .bool (isHk c L)]) ∧ FT (New W w') w' (.slice a (gd c L).length k) (gd c L) ∧ Below W.heap.size W w' := by
  have hH := isHeckeImpl h hf.any hl hl'
  obtain ⟨au, cu, rfl⟩ := h.form
  obtain ⟨a, cap, rfl, _⟩ := FC.form hf
  have HY : Hid (isHk c L = true → gd c L = L) := Lib.hid (fun h => by unfold gd; rw [if_pos h])
  have HN : Hid (isHk c L = false → gd c L = []) := Lib.hid (fun h => by unfold gd; rw [if_neg (by rw [h]; simp)])
  generalize hg : gd c L = G at *
  clear hg
  generalize isHk c L = q at *
  cases q
  · have E0 := Lib.hid (HN.out rfl)
    go_enter Try.func41, Try.ntmps41
    go_wp2_with fail
    refine hH.mono ?_
    rintro e w1 ⟨rfl, b1⟩
    have b2 := Keeps.step hW b1
    go_wp2_with fail
    go_ret2
    rw [E0.out]
    exact ⟨_, _, rfl, FT.none0 b2, b2.alloc b2.size _⟩
  · have E0 := Lib.hid (HY.out rfl)
    go_enter Try.func41, Try.ntmps41
    go_wp2_with fail
    refine hH.mono ?_
    rintro e w1 ⟨rfl, b1⟩
    have b2 := Keeps.step hW b1
    have hf1 := FC.grow hf b1
    go_wp2_with fail
    go_ret2
    rw [E0.out]
    exact ⟨_, _, rfl, hf1, b2⟩

/-- The terms of a and of b added one by one; what the sum is. -/
def adB (c : List (List Int)) (A B : List Trm) : Bool := isHk c A && (isHk c B && isHk c (puts (A ++ B)))
def adR (c : List (List Int)) (A B : List Trm) : List Trm := if isHk c A = true then if isHk c B = true then gd c (puts (A ++ B)) else [] else []
theorem ad_no1 {c : List (List Int)} {A B : List Trm} (h : isHk c A = false) : adB c A B = false ∧ adR c A B = [] := by unfold adB adR; rw [h]; exact ⟨rfl, rfl⟩
theorem ad_no2 {c : List (List Int)} {A B : List Trm} (h1 : isHk c A = true) (h : isHk c B = false) : adB c A B = false ∧ adR c A B = [] := by unfold adB adR; rw [h1, h]; exact ⟨rfl, rfl⟩
theorem ad_yes {c : List (List Int)} {A B : List Trm} (h1 : isHk c A = true) (h : isHk c B = true) : adB c A B = isHk c (puts (A ++ B)) ∧ adR c A B = gd c (puts (A ++ B)) := by unfold adB adR; rw [h1, h]; exact ⟨rfl, rfl⟩
theorem gd_total (c : List (List Int)) (L : List Trm) : totalT (gd c L) ≤ 4620 := by
  unfold gd
  by_cases h : isHk c L = true
  · rw [if_pos h]; exact (isHk_parts h).total
  · rw [if_neg h]; simp [totalT, flatT]
theorem adR_total (c : List (List Int)) (A B : List Trm) : totalT (adR c A B) ≤ 4620 := by
  unfold adR
  split
  · split
    · exact gd_total _ _
    · simp [totalT, flatT]
  · simp [totalT, flatT]
/-- What holds of the terms of two elements. -/
theorem two_ok {c : List (List Int)} {A B : List Trm} (h1 : Hk c A) (h2 : Hk c B) : (∀ t ∈ A ++ B, t.1.length ≤ 15 ∧ t.2.length ≤ 61 ∧ Trd t.2) ∧ (A ++ B).length ≤ 120 := by
  refine ⟨fun t ht => ?_, by rw [List.length_append]; have := h1.len; have := h2.len; omega⟩
  rcases List.mem_append.1 ht with ht | ht
  · exact ⟨(h1.word ht).1, h1.poly t ht, h1.tr t ht⟩
  · exact ⟨(h2.word ht).1, h2.poly t ht, h2.tr t ht⟩
theorem two_in {A B : List Trm} (h1 : ∀ t ∈ A, InI t.2) (h2 : ∀ t ∈ B, InI t.2) : ∀ t ∈ A ++ B, InI t.2 := fun t ht => by
  rcases List.mem_append.1 ht with ht | ht
  · exact h1 t ht
  · exact h2 t ht
/-- Sizes of sums. -/
theorem puts_small {L : List Trm} {n : Nat} (hn : L.length ≤ n) (h : ∀ t ∈ L, t.1.length ≤ 31 ∧ t.2.length ≤ 63) : (puts L).length ≤ n ∧ (∀ t ∈ puts L, t.1.length ≤ 31 ∧ t.2.length ≤ 63) ∧ totalT (puts L) ≤ n * 95 := by
  obtain ⟨a1, a2⟩ := puts_all (A := 31) (B := 63) _ L rfl h
  have h1 := totalT_le a2
  have h2 : (puts L).length * (1 + 31 + 63) ≤ n * 95 := Nat.mul_le_mul (by omega) (by omega)
  exact ⟨by omega, a2, by omega⟩
end Go.Proofs.Ytfpjojlkodglnaa

/-! AddHecke of the reference. Condition: sizes up to 2^20. -/
namespace Go.Proofs.Ytfpjojlkodglnaa
open Go.RowKit
set_option maxRecDepth 20000

/-- What a loop that adds the terms of D one by one needs. -/
structure AddP (D : List Trm) : Prop where
  step : ∀ (k : Nat) (x : Trm), D[k]? = some x → endP x.1 x.2 (putF x.1 x.2 (puts (D.take k))) = puts (D.take (k + 1))
  len : ∀ k, (puts (D.take k)).length ≤ 1000 ∧ ∀ t ∈ puts (D.take k), t.1.length ≤ 1048576 ∧ t.2.length ≤ 1048576 ∧ InI t.2
  elt : ∀ (k : Nat) (x : Trm), D[k]? = some x → x.1.length ≤ 1048576 ∧ x.2.length ≤ 1048576 ∧ InI x.2
theorem addP_of {D : List Trm} (hD : D.length ≤ 1000) (h : ∀ t ∈ D, t.1.length ≤ 31 ∧ t.2.length ≤ 63 ∧ Trd t.2 ∧ InI t.2) : AddP D := by
  have htk : ∀ k, ∀ t ∈ D.take k, Trd t.2 ∧ InI t.2 := fun k t ht => (h t (List.mem_of_mem_take ht)).2.2
  refine ⟨fun k x hx => ?_, fun k => ?_, fun k x hx => ?_⟩
  · rw [putF_eq (puts_can _ _ rfl (htk k)).1, puts_step hx]
  · have h1 := puts_small (L := D.take k) (n := 1000) (by rw [List.length_take]; exact Nat.le_trans (Nat.min_le_right _ _) hD) (fun t ht => by have := h t (List.mem_of_mem_take ht); exact ⟨this.1, this.2.1⟩)
    exact ⟨h1.1, fun t ht => by have := h1.2.1 t ht; exact ⟨by omega, by omega, (puts_can _ _ rfl (htk k)).1.inn t ht⟩⟩
  · have := h x (List.mem_of_getElem? hx)
    exact ⟨by omega, by omega, this.2.2.2⟩

set_option maxHeartbeats 4000000 in
theorem addHeckeSpec {S S' S'' : Nat → Prop} {u va vb : Value} {c : List (List Int)} {A B : List Trm} {w : World} (h : RII S w u c) (ha : RT S' w va A) (hb : RT S'' w vb B)
    (hl : total c ≤ 16777216) (hlA : totalT A ≤ 1048576) (hlB : totalT B ≤ 1048576) (hiA : ∀ t ∈ A, InI t.2) (hiB : ∀ t ∈ B, InI t.2) :
    Calls Try.prog 21 #[u, va, vb] w fun e w' => ∃ r, e = .returned (.tuple #[r, .bool (adB c A B)]) ∧ FT (New w w') w' r (adR c A B) ∧ Below w.heap.size w w' := by
  have hHA := isHeckeSpec h ha hl (by omega)
  have hHB := fun w1 (b1 : Below w.heap.size w w1) => isHeckeSpec (h.below b1) (hb.below b1) hl (by omega)
  have h0 := h
  obtain ⟨au, cu, rfl⟩ := h.form
  obtain ⟨aa, ca, rfl⟩ := ha.form
  obtain ⟨ab, cb, rfl⟩ := hb.form
  cases hk : isHk c A with
  | false =>
    have HB := Lib.hid (ad_no1 (B := B) hk)
    rw [hk] at hHA
    clear hk hHB
    go_enter Try.func21, Try.ntmps21
    go_wp2_with fail
    refine hHA.mono ?_
    rintro e w1 ⟨rfl, b1⟩
    go_wp2_with fail
    go_ret2
    rw [HB.out.1, HB.out.2]
    exact ⟨_, rfl, FT.none0 b1, b1.alloc b1.size _⟩
  | true =>
    rw [hk] at hHA
    cases hk2 : isHk c B with
    | false =>
      have HB := Lib.hid (ad_no2 hk hk2)
      rw [hk2] at hHB
      clear hk hk2
      go_enter Try.func21, Try.ntmps21
      go_wp2_with fail
      refine hHA.mono ?_
      rintro e w1 ⟨rfl, b1⟩
      go_wp2_with fail
      refine (hHB w1 b1).mono ?_
      rintro e w2 ⟨rfl, b2⟩
      have b02 := Keeps.step b1 b2
      go_wp2_with fail
      go_ret2
      rw [HB.out.1, HB.out.2]
      exact ⟨_, rfl, FT.none0 b02, b02.alloc b02.size _⟩
    | true =>
      have HB := Lib.hid (ad_yes hk hk2)
      rw [hk2] at hHB
      have htwo := two_ok (isHk_parts hk) (isHk_parts hk2)
      have hin := two_in hiA hiB
      have HP := Lib.hid (addP_of (D := A ++ B) (by have := htwo.2; omega) (fun t ht => by
        have h1 := htwo.1 t ht
        exact ⟨by omega, by omega, h1.2.2, hin t ht⟩))
      have HTOT : Hid (totalT (puts (A ++ B)) ≤ 16777216) := Lib.hid (by
        have h2 := (puts_small (L := A ++ B) (n := 120) htwo.2 (fun t ht => by have := htwo.1 t ht; exact ⟨by omega, by omega⟩)).2.2
        omega)
      have HAt : Hid (∀ (k : Nat) (x : Trm), A[k]? = some x → (A ++ B)[k]? = some x) := Lib.hid (fun k x hx => by rw [List.getElem?_append_left (List.getElem?_eq_some_iff.1 hx).1]; exact hx)
      have HBt : Hid (∀ (k : Nat) (x : Trm), B[k]? = some x → (A ++ B)[A.length + k]? = some x) := Lib.hid (fun k x hx => by rw [List.getElem?_append_right (by omega), Nat.add_sub_cancel_left]; exact hx)
      have HE : Hid ((A ++ B).take (A.length + B.length) = A ++ B) := Lib.hid (by rw [← List.length_append]; exact List.take_of_length_le (Nat.le_refl _))
      have H0 : Hid (puts ((A ++ B).take 0) = []) := Lib.hid rfl
      clear htwo hin hiA hiB hk hk2
      generalize A ++ B = D at *
      generalize hna : A.length = na at *
      generalize hnb : B.length = nb at *
      have hlna : na ≤ 1048576 := by rw [← hna]; unfold totalT at hlA; omega
      have hlnb : nb ≤ 1048576 := by rw [← hnb]; unfold totalT at hlB; omega
      clear hna hnb hlA hlB
      go_enter Try.func21, Try.ntmps21
      go_wp2_with fail
      refine hHA.mono ?_
      rintro e w1 ⟨rfl, b1⟩
      go_wp2_with fail
      refine (hHB w1 b1).mono ?_
      rintro e w2 ⟨rfl, b2⟩
      have b02 := Keeps.step b1 b2
      clear hHA hHB
      go_wp2_with fail
      have f1 : FT (New w (w2.alloc (.cells #[] 48))) (w2.alloc (.cells #[] 48)) (.slice (some ⟨w2.heap.size, 0, none⟩) 0 0) [] := FT.none0 b02
      have b3 : Below w.heap.size w (w2.alloc (.cells #[] 48)) := b02.alloc b02.size _
      generalize w2.alloc (.cells #[] 48) = w3 at *
      rw [← H0.out] at f1
      go_loopw [8, 9] (fun zz j wr => ∃ (k : Nat) (zv : Value), zv = zz ∧ k ≤ na ∧ j = .int .i64 k ∧ FT (New w wr) wr zv (puts (D.take k)) ∧ Below w.heap.size w wr) (fun _ j _ => na - (intOf j).toNat)
      case atStart => exact ⟨0, _, rfl, Nat.zero_le _, rfl, f1, b3⟩
      case round =>
        obtain ⟨k, zv, rfl, hk, rfl, hf, hbb⟩ := hrel
        by_cases h1 : k < na
        · obtain ⟨b, o, r, r', x, e8, hc, hc', ⟨hr, hr'⟩, hx⟩ := ha.at h1
          subst e8
          obtain ⟨ax, cx, rfl⟩ := hr.form
          obtain ⟨ay, cy, rfl⟩ := hr'.form
          have i1 : (k : Int) < (na : Int) := by omega
          have lb0 : b < w.heap.size := World.block_lt_of_cell? w _ hc
          have hcr := (hbb.cell (p := ⟨b, o + k * 2, none⟩) lb0).trans hc
          have hcr' := (hbb.cell (p := ⟨b, o + k * 2 + 1, none⟩) lb0).trans hc'
          have lbr : b < wr.heap.size := Nat.lt_of_lt_of_le lb0 hbb.size
          have hr2 := hr.below hbb
          have hr2' := hr'.below hbb
          have hD := HAt.out k x hx.out
          have HS2 := Lib.hid (HP.out.step k x hD)
          obtain ⟨hx1, hx2, hx3⟩ := HP.out.elt k x hD
          have hL2 := HP.out.len k
          have hL0 : (puts (D.take k)).length ≤ 1048576 := by omega
          obtain ⟨az2, cz2, e2, _⟩ := FC.form hf
          subst e2
          have hfr := hf.read.below ((Below.refl _ wr).drew)
          clear hD hx
          go_wp2_with fail
          go_region_held3 (fun w' => w'.cell? ⟨b, o + k * 2, none⟩ = some (.slice ax x.1.length cx) ∧ w'.cell? ⟨b, o + k * 2 + 1, none⟩ = some (.slice ay x.2.length cy)) (first | go_keep | exact ⟨(b5.cell (p := ⟨b, o + k * 2, none⟩) lbr).trans hcr, (b5.cell (p := ⟨b, o + k * 2 + 1, none⟩) lbr).trans hcr'⟩) (first
            | (go_at_call 31; refine (putSpec hfr hr2.drew hr2'.drew hL0 hL2.2 hx1 hx2 hx3).mono ?_; rintro e w5 ⟨r5, rfl, f5, b5⟩))
          rw [HS2.out] at f5
          have hbd := Keeps.step hbb.drew b5
          go_wp2_with fail
          go_roundw
          case rel => exact ⟨k + 1, _, rfl, by omega, by go_num, f5.mono (fun b hb' => ⟨Nat.le_trans hbb.size hb'.1, hb'.2⟩), hbd⟩
          case measure => simp [intOf]; omega
        · have hkm : k = na := by omega
          have i1 : ¬ (k : Int) < (na : Int) := by omega
          have hf : FT (New w wr) wr zv (puts (D.take (na + 0))) := by rw [Nat.add_zero, ← hkm]; exact hf
          clear hkm
          go_wp2_with fail
          go_loopw [8, 10] (fun zz j wr => ∃ (k : Nat) (zv : Value), zv = zz ∧ k ≤ nb ∧ j = .int .i64 k ∧ FT (New w wr) wr zv (puts (D.take (na + k))) ∧ Below w.heap.size w wr) (fun _ j _ => nb - (intOf j).toNat)
          case atStart => exact ⟨0, _, rfl, Nat.zero_le _, rfl, hf, hbb⟩
          case round =>
            obtain ⟨k2, zv, rfl, hk2, rfl, hf, hbb⟩ := hrel
            by_cases h2 : k2 < nb
            · obtain ⟨b, o, r, r', x, e8, hc, hc', ⟨hr, hr'⟩, hx⟩ := hb.at h2
              subst e8
              obtain ⟨ax, cx, rfl⟩ := hr.form
              obtain ⟨ay, cy, rfl⟩ := hr'.form
              have i2 : (k2 : Int) < (nb : Int) := by omega
              have lb0 : b < w.heap.size := World.block_lt_of_cell? w _ hc
              have hcr := (hbb.cell (p := ⟨b, o + k2 * 2, none⟩) lb0).trans hc
              have hcr' := (hbb.cell (p := ⟨b, o + k2 * 2 + 1, none⟩) lb0).trans hc'
              have hr2 := hr.below hbb
              have hr2' := hr'.below hbb
              have hD := HBt.out k2 x hx.out
              have HS2 := Lib.hid (HP.out.step (na + k2) x hD)
              obtain ⟨hx1, hx2, hx3⟩ := HP.out.elt (na + k2) x hD
              have hL2 := HP.out.len (na + k2)
              have hL0 : (puts (D.take (na + k2))).length ≤ 1048576 := by omega
              obtain ⟨az2, cz2, e2, _⟩ := FC.form hf
              subst e2
              have lbr : b < wr.heap.size := Nat.lt_of_lt_of_le lb0 hbb.size
              have hfr := hf.read.below ((Below.refl _ wr).drew)
              clear hD hx
              go_wp2_with fail
              go_region_held3 (fun w' => w'.cell? ⟨b, o + k2 * 2, none⟩ = some (.slice ax x.1.length cx) ∧ w'.cell? ⟨b, o + k2 * 2 + 1, none⟩ = some (.slice ay x.2.length cy)) (first | go_keep | exact ⟨(b5.cell (p := ⟨b, o + k2 * 2, none⟩) lbr).trans hcr, (b5.cell (p := ⟨b, o + k2 * 2 + 1, none⟩) lbr).trans hcr'⟩) (first
                | (go_at_call 31; refine (putSpec hfr hr2.drew hr2'.drew hL0 hL2.2 hx1 hx2 hx3).mono ?_; rintro e w5 ⟨r5, rfl, f5, b5⟩))
              rw [HS2.out] at f5
              have hbd := Keeps.step hbb.drew b5
              go_wp2_with fail
              go_roundw
              case rel => exact ⟨k2 + 1, _, rfl, by omega, by go_num, f5.mono (fun b hb' => ⟨Nat.le_trans hbb.size hb'.1, hb'.2⟩), hbd⟩
              case measure => simp [intOf]; omega
            · have hkm : k2 = nb := by omega
              have i2 : ¬ (k2 : Int) < (nb : Int) := by omega
              rw [hkm, HE.out] at hf
              clear hkm
              have hg := goodSpec (h0.below hbb) hf hbb hl HTOT.out
              go_wp2_with fail
              refine hg.mono ?_
              rintro e w9 ⟨a9, c9, rfl, f9, b9⟩
              go_wp2_with fail
              go_ret2
              rw [HB.out.1, HB.out.2]
              exact ⟨_, rfl, f9, b9⟩
end Go.Proofs.Ytfpjojlkodglnaa

/-! slices.Concat of two lists of terms. Condition: at most 2^20 terms each. -/
namespace Go.Proofs.Ytfpjojlkodglnaa
open Go.RowKit
set_option maxRecDepth 20000

theorem infoInt64 : Try.prog.underlying 3 = some (.int .i64) := by kernel_rfl

set_option maxHeartbeats 1000000 in
theorem growT {W w : World} {n : Nat} (hW : Below W.heap.size W w) (hn : n ≤ 4194304) :
    Calls Try.prog 67 #[.slice none 0 0, .int .i64 n] w fun e w' => ∃ a c, e = .returned (.slice a 0 c) ∧ OT W w' (.slice a 0 c) [] ∧ Below W.heap.size W w' := by
  by_cases h0 : n = 0
  · subst h0
    go_enter Try.func67, Try.ntmps67
    go_wp2_with fail
    go_ret
    exact ⟨_, _, rfl, OT.nil _ _, hW⟩
  · have h1 : 0 < n := by omega
    have i1 : ¬ (n : Int) < 0 := by omega
    have i2 : (0 : Int) < (n : Int) := by omega
    obtain ⟨i0, hi, hz0, hz1, hz2⟩ := info_parts infoTerm
    have hrun := fun (w : World) => Lib.run_append_nil_zeros w 27 3 27 48 i0 (.agg #[.slice none 0 0, .slice none 0 0]) .i64 .i64 Try.underlying27 infoInt64 hi hz0 n h1 (by rw [hz1]; decide) (by omega) (by rw [hz2]; omega)
    go_enter Try.func67, Try.ntmps67
    go_wp2_with (at_builtin; go_must (refine Lib.wpList_append_run _ rfl _ _ _ _ rfl _ _ rfl rfl _ _ (hrun _) ?_))
    have hcap : n ≤ grownCap w n 0 48 := grownCap_ge _ _ _ _
    have hmax : grownCap w n 0 48 ≤ maxLen := grownCap_le_maxLen _ _ _ _ (by unfold maxLen; omega)
    have hot : OT W ((w.alloc (.cells (Builtin.zeroCells #[.slice none 0 0, .slice none 0 0] n ++ Builtin.zeroCells #[.slice none 0 0, .slice none 0 0] (grownCap w n 0 48 - n)) 48)).drew) (.slice (some ⟨w.heap.size, 0, none⟩) 0 (grownCap w n 0 48)) [] :=
      ⟨[], rfl, (World.ownsRow_made w _ _ hW.size hmax (by simp [Builtin.zeroCells]; omega)).drew, fun e he => by simp at he⟩
    have hb : Below W.heap.size W ((w.alloc (.cells (Builtin.zeroCells #[.slice none 0 0, .slice none 0 0] n ++ Builtin.zeroCells #[.slice none 0 0, .slice none 0 0] (grownCap w n 0 48 - n)) 48)).drew) := (hW.alloc hW.size _).drew
    generalize grownCap w n 0 48 = cp at *
    clear hrun
    go_wp2_with fail
    go_ret
    exact ⟨_, _, rfl, hot, hb⟩

set_option maxHeartbeats 2000000 in
theorem concatT {S S' : Nat → Prop} {g : Nat} {va vb : Value} {A B : List Trm} {w : World} (ha : RT S w va A) (hb : RT S' w vb B) (hc0 : w.cell? ⟨g, 0, none⟩ = some va) (hc1 : w.cell? ⟨g, 1, none⟩ = some vb)
    (hA : A.length ≤ 1048576) (hB : B.length ≤ 1048576) :
    Calls Try.prog 42 #[.slice (some ⟨g, 0, none⟩) 2 2] w fun e w' => ∃ r, e = .returned r ∧ OT w w' r (A ++ B) ∧ Below w.heap.size w w' := by
  obtain ⟨aa, ca, rfl⟩ := ha.form
  obtain ⟨ab, cb, rfl⟩ := hb.form
  have lg := World.block_lt_of_cell? w _ hc0
  have HNA : Hid (A.length = A.length) := Lib.hid rfl
  generalize hna : A.length = na at *
  have HA := Lib.hid hna
  clear hna HNA
  generalize hnb : B.length = nb at *
  have HB := Lib.hid hnb
  clear hnb
  obtain ⟨cat, hcat⟩ : ∃ cat : Nat → List Trm, cat = fun k => if k = 0 then [] else if k = 1 then A else A ++ B := ⟨_, rfl⟩
  have HC0 : Hid (cat 0 = []) := Lib.hid (by rw [hcat]; rfl)
  have HC1 : Hid (cat 1 = A ∧ cat 0 ++ A = cat 1) := Lib.hid (by rw [hcat]; exact ⟨rfl, rfl⟩)
  have HC2 : Hid (cat 2 = A ++ B ∧ cat 1 ++ B = cat 2) := Lib.hid (by rw [hcat]; exact ⟨rfl, rfl⟩)
  clear hcat
  obtain ⟨sz, hsz⟩ : ∃ sz : Nat → Nat, sz = fun k => if k = 0 then 0 else if k = 1 then na else na + nb := ⟨_, rfl⟩
  have HS0 : Hid (sz 0 = 0) := Lib.hid (by rw [hsz]; rfl)
  have HS1 : Hid (sz 1 = na) := Lib.hid (by rw [hsz]; rfl)
  have HS2 : Hid (sz 2 = na + nb) := Lib.hid (by rw [hsz]; rfl)
  clear hsz
  go_enter Try.func42, Try.ntmps42
  go_wp2_with fail
  go_loopw [3, 11] (fun s i wr => ∃ k q : Nat, k ≤ 2 ∧ i = .int .i64 k ∧ s = .int .i64 q ∧ Hid (sz k = q) ∧ Below w.heap.size w wr) (fun _ i _ => 2 - (intOf i).toNat)
  case atStart => exact ⟨0, 0, by omega, rfl, rfl, HS0, Below.refl _ _⟩
  case round =>
    obtain ⟨k, q, hk, rfl, rfl, HQ, hw0⟩ := hrel
    by_cases h0 : k = 0
    · subst h0
      have hq : q = 0 := by rw [← HQ.out, HS0.out]
      subst hq
      have i1 : ¬ (na : Int) < 0 := by omega
      have k0 := (hw0.cell (p := ⟨g, 0, none⟩) lg).trans hc0
      go_wp2_with fail
      go_roundw
      case rel => exact ⟨1, na, by omega, rfl, by go_num, HS1, hw0⟩
      case measure => simp [intOf]
    · by_cases h1 : k = 1
      · subst h1
        have hq : q = na := by rw [← HQ.out, HS1.out]
        subst hq
        have i1 : ¬ (q : Int) + (nb : Int) < 0 := by omega
        have k1 := (hw0.cell (p := ⟨g, 1, none⟩) lg).trans hc1
        go_wp2_with fail
        go_roundw
        case rel => exact ⟨2, q + nb, by omega, rfl, by go_num, HS2, hw0⟩
        case measure => simp [intOf]
      · have hk2 : k = 2 := by omega
        subst hk2
        have hq : q ≤ 4194304 := by rw [← HQ.out, HS2.out]; omega
        go_wp2_with fail
        refine (growT (W := w) hw0 hq).mono ?_
        rintro e w1 ⟨a1, c1, rfl, f1, b1⟩
        rw [← HC0.out] at f1
        go_wp2_with fail
        go_loopw [6, 27] (fun z i w2 => ∃ (k : Nat) (zv : Value), zv = z ∧ k ≤ 2 ∧ i = .int .i64 k ∧ OT w w2 zv (cat k) ∧ Below w.heap.size w w2) (fun _ i _ => 2 - (intOf i).toNat)
        case atStart => exact ⟨0, _, rfl, by omega, rfl, f1, b1⟩
        case round =>
          obtain ⟨k, zv, rfl, hk, rfl, hf, hbb⟩ := hrel
          by_cases h0 : k = 0
          · subst h0
            have k0 := (hbb.cell (p := ⟨g, 0, none⟩) lg).trans hc0
            rw [HC0.out] at hf
            obtain ⟨az, cz, rfl⟩ := hf.form
            have hra := ha.below hbb
            go_wp2_with (at_builtin; go_must (refine wpList_appO (W := w) rfl _ _ rfl rfl hf hbb rfl hra (by have := HA.out; simp; omega) ?_))
            intro v' w' f2 b2 _
            rw [← HC1.out.1] at f2
            go_wp2_with fail
            go_roundw
            case rel => exact ⟨1, _, rfl, by omega, rfl, f2, b2⟩
            case measure => simp [intOf]
          · by_cases h1 : k = 1
            · subst h1
              have k1 := (hbb.cell (p := ⟨g, 1, none⟩) lg).trans hc1
              have hf0 := hf
              rw [HC1.out.1] at hf0
              obtain ⟨az, cz, rfl⟩ := hf0.form
              have hrb := hb.below hbb
              go_wp2_with (at_builtin; go_must (refine wpList_appO (W := w) rfl _ _ rfl rfl hf0 hbb rfl hrb (by rw [HA.out, HB.out]; omega) ?_))
              intro v' w' f2 b2 _
              rw [← HC2.out.1] at f2
              go_wp2_with fail
              go_roundw
              case rel => exact ⟨2, _, rfl, by omega, rfl, f2, b2⟩
              case measure => simp [intOf]
            · have hk2 : k = 2 := by omega
              subst hk2
              rw [HC2.out.1] at hf
              go_wp2_with fail
              go_ret
              exact ⟨_, rfl, hf, hbb⟩
end Go.Proofs.Ytfpjojlkodglnaa

/-! AddHecke of the program. Condition: sizes up to 2^20. -/
namespace Go.Proofs.Ytfpjojlkodglnaa
open Go.RowKit
set_option maxRecDepth 20000

set_option maxHeartbeats 4000000 in
theorem addHeckeImpl {S S' S'' : Nat → Prop} {u va vb : Value} {c : List (List Int)} {A B : List Trm} {w : World} (h : RII S w u c) (ha : RT S' w va A) (hb : RT S'' w vb B)
    (hl : total c ≤ 16777216) (hlA : totalT A ≤ 1048576) (hlB : totalT B ≤ 1048576) (hiA : ∀ t ∈ A, InI t.2) (hiB : ∀ t ∈ B, InI t.2) :
    Calls Try.prog 22 #[u, va, vb] w fun e w' => ∃ r, e = .returned (.tuple #[r, .bool (adB c A B)]) ∧ FT (New w w') w' r (adR c A B) ∧ Below w.heap.size w w' := by
  have hHA := isHeckeImpl h ha hl (by omega)
  have hHB := fun w1 (b1 : Below w.heap.size w w1) => isHeckeImpl (h.below b1) (hb.below b1) hl (by omega)
  have h0 := h
  obtain ⟨au, cu, rfl⟩ := h.form
  obtain ⟨aa, ca, rfl⟩ := ha.form
  obtain ⟨ab, cb, rfl⟩ := hb.form
  cases hk : isHk c A with
  | false =>
    have HB := Lib.hid (ad_no1 (B := B) hk)
    rw [hk] at hHA
    clear hk hHB
    go_enter Try.func22, Try.ntmps22
    go_wp2_with fail
    refine hHA.mono ?_
    rintro e w1 ⟨rfl, b1⟩
    go_wp2_with fail
    go_ret2
    rw [HB.out.1, HB.out.2]
    exact ⟨_, rfl, FT.none0 b1, b1.alloc b1.size _⟩
  | true =>
    rw [hk] at hHA
    cases hk2 : isHk c B with
    | false =>
      have HB := Lib.hid (ad_no2 hk hk2)
      rw [hk2] at hHB
      clear hk hk2
      go_enter Try.func22, Try.ntmps22
      go_wp2_with fail
      refine hHA.mono ?_
      rintro e w1 ⟨rfl, b1⟩
      go_wp2_with fail
      refine (hHB w1 b1).mono ?_
      rintro e w2 ⟨rfl, b2⟩
      have b02 := Keeps.step b1 b2
      go_wp2_with fail
      go_ret2
      rw [HB.out.1, HB.out.2]
      exact ⟨_, rfl, FT.none0 b02, b02.alloc b02.size _⟩
    | true =>
      have HB := Lib.hid (ad_yes hk hk2)
      rw [hk2] at hHB
      have htwo := two_ok (isHk_parts hk) (isHk_parts hk2)
      have hin := two_in hiA hiB
      have HD : Hid ((A ++ B).length ≤ 1048576 ∧ ∀ t ∈ A ++ B, t.1.length ≤ 1048576 ∧ t.2.length ≤ 1048576 ∧ Trd t.2 ∧ InI t.2) := Lib.hid ⟨by have := htwo.2; omega, fun t ht => by
        have h1 := htwo.1 t ht
        exact ⟨by omega, by omega, h1.2.2, hin t ht⟩⟩
      have HTOT : Hid (totalT (puts (A ++ B)) ≤ 16777216) := Lib.hid (by
        have h2 := (puts_small (L := A ++ B) (n := 120) htwo.2 (fun t ht => by have := htwo.1 t ht; exact ⟨by omega, by omega⟩)).2.2
        omega)
      have hlna : A.length ≤ 1048576 := by unfold totalT at hlA; omega
      have hlnb : B.length ≤ 1048576 := by unfold totalT at hlB; omega
      clear htwo hin hiA hiB hk hk2 hlA hlB
      generalize hD : A ++ B = D at *
      have HDD : Hid (A ++ B = D) := Lib.hid hD
      clear hD
      generalize hna : A.length = na at *
      have HNA := Lib.hid hna
      generalize hnb : B.length = nb at *
      have HNB := Lib.hid hnb
      clear hna hnb
      go_enter Try.func22, Try.ntmps22
      go_wp2_with fail
      refine hHA.mono ?_
      rintro e w1 ⟨rfl, b1⟩
      go_wp2_with fail
      refine (hHB w1 b1).mono ?_
      rintro e w2 ⟨rfl, b2⟩
      have b02 := Keeps.step b1 b2
      clear hHA hHB
      obtain ⟨w3, hw3⟩ : ∃ w3, w3 = w2.alloc (.cells #[.slice aa na ca, .slice ab nb cb] 27) := ⟨_, rfl⟩
      have b3 : Below w2.heap.size w2 w3 := by rw [hw3]; exact (Below.refl _ w2).alloc (Nat.le_refl _) _
      have k0 : w3.cell? ⟨w2.heap.size, 0, none⟩ = some (.slice aa na ca) := by rw [hw3]; go_simp
      have k1 : w3.cell? ⟨w2.heap.size, 1, none⟩ = some (.slice ab nb cb) := by rw [hw3]; go_simp
      have b03 := Keeps.step b02 b3
      have hcc := concatT (ha.below b03) (hb.below b03) k0 k1 (by rw [HNA.out]; exact hlna) (by rw [HNB.out]; exact hlnb)
      rw [HDD.out] at hcc
      go_wp2_with fail
      rw [← hw3]
      clear hw3
      refine hcc.mono ?_
      rintro e w4 ⟨r4, rfl, f4, b4⟩
      obtain ⟨a4, c4, rfl⟩ := f4.form
      have b04 := Keeps.step b03 b4
      have hcol := collectedImpl f4.read HD.out.1 HD.out.2
      go_wp2_with fail
      refine hcol.mono ?_
      rintro e w5 ⟨r5, rfl, f5, b5⟩
      obtain ⟨a5, c5, rfl, _⟩ := FC.form f5
      have b05 := Keeps.step b04 b5
      have hg := checkedImpl (W := w) (h0.below b05) (f5.mono (fun b hb' => ⟨Nat.le_trans b04.size hb'.1, hb'.2⟩)) b05 hl HTOT.out
      go_wp2_with fail
      refine hg.mono ?_
      rintro e w9 ⟨a9, c9, rfl, f9, b9⟩
      go_wp2_with fail
      go_ret2
      rw [HB.out.1, HB.out.2]
      exact ⟨_, rfl, f9, b9⟩
end Go.Proofs.Ytfpjojlkodglnaa
