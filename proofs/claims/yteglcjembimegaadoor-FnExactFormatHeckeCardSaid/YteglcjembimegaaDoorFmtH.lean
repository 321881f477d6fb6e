/- Elements of the algebra as text, by the program. Condition: sizes up to 2^20. -/
import Derived.Test.YteglcjembimegaaDoorFmtG
namespace Go.Proofs.YteglcjembimegaaDoor
open Go.RowKit
set_option maxRecDepth 20000

set_option maxHeartbeats 1000000 in
theorem formatHeckeImpl {S : Nat → Prop} {v : Value} {L : List Trm} {w : World} {B : Nat} (h : RT S w v L) (hi : TOk L) (hl : L.length ≤ 1048576) (ht : Tab B w) (hB : B ≤ w.heap.size) :
    Calls Tryd.prog 13 #[v] w fun e w' => e = .returned (.string (bs (fmtHk L))) ∧ Below w.heap.size w w' := by
  obtain ⟨a, cap, rfl⟩ := h.form
  have HI := Lib.hid hi
  have HT := Lib.hid ht
  have HJ := Lib.hid (fmtTs_len hi)
  have HST := Lib.hid (fun (k : Nat) (x : Trm) (hx : L[k]? = some x) => take_step (L := L.map fmtT) (k := k) (x := fmtT x) (by rw [List.getElem?_map, hx]; rfl))
  have HF := Lib.hid (show (L.length = 0 → fmtHk L = [48]) ∧ (L.length ≠ 0 → fmtHk L = jn [32, 43, 32] (L.map fmtT)) from
    ⟨fun e => by unfold fmtHk; rw [if_pos (List.eq_nil_of_length_eq_zero e)], fun e => by unfold fmtHk; rw [if_neg (fun h => e (by rw [h]; rfl))]⟩)
  have H0 : Hid ((L.map fmtT).take 0 = []) := Lib.hid rfl
  have HN : Hid ((L.map fmtT).take L.length = L.map fmtT) := Lib.hid (List.take_of_length_le (by simp))
  have HLL : Hid (∀ k, ((L.map fmtT).take k).length ≤ k) := Lib.hid (fun k => by simp; omega)
  have HML : Hid ((L.map fmtT).length = L.length) := Lib.hid (by simp)
  generalize hm : L.length = m at *
  have HM := Lib.hid hm
  clear hm hi ht
  generalize fmtHk L = res at *
  by_cases hz : m = 0
  · have HR : Hid (bs res = ⟨#[48]⟩) := Lib.hid (by rw [HF.out.1 hz]; rfl)
    have i1 : ((m : Int) == 0) = true := by simp; omega
    clear hz
    go_enter Tryd.func13, Tryd.ntmps13
    go_wp2_with fail
    go_ret
    rw [HR.out]
    exact ⟨rfl, Below.refl _ _⟩
  have HR : Hid (res = jn [32, 43, 32] (L.map fmtT)) := Lib.hid (HF.out.2 hz)
  have i0 : ((m : Int) == 0) = false := by simp; omega
  clear hz
  go_enter Tryd.func13, Tryd.ntmps13
  go_wp2_with fail
  have f1 := FS.empty (Below.refl _ w)
  have b1 : Below w.heap.size w (w.alloc (.cells #[] 9)) := (Below.refl _ w).alloc (Nat.le_refl _) _
  generalize w.alloc (.cells #[] 9) = w1 at *
  rw [← H0.out] at f1
  go_loopw [3, 12] (fun zz j wr => ∃ (k : Nat) (z : Value), z = zz ∧ k ≤ m ∧ j = .int .i64 k ∧ FS (New w wr) wr z ((L.map fmtT).take k) ∧ Below w.heap.size w wr) (fun _ j _ => m - (intOf j).toNat)
  case atStart => exact ⟨0, _, rfl, Nat.zero_le _, rfl, f1, b1⟩
  case round =>
    obtain ⟨k, z, rfl, hk, rfl, hf, hb⟩ := hrel
    by_cases h1 : k < m
    · obtain ⟨b, o, r, r', x, e8, hc, hc', ⟨hr, hr'⟩, hx⟩ := (h.below hb).at h1
      subst e8
      obtain ⟨ax, cx, rfl⟩ := hr.form
      obtain ⟨ay, cy, rfl⟩ := hr'.form
      have i1 : (k : Int) < (m : Int) := by omega
      obtain ⟨hx1, hx2, hx3, hx4⟩ := HI.out x (List.mem_of_getElem? hx.out)
      have hpz : (bs (fmtP x.2)).size ≤ 47185920 := by rw [bs_size]; exact fmtP_len hx2 hx4
      have hwz : (bs (fmtWd x.1)).size ≤ 1048577 := by rw [bs_size]; exact Nat.le_trans fmtWd_len (by omega)
      obtain ⟨w2, hw2⟩ : ∃ w2, w2 = wr.alloc (.cells #[.slice ax x.1.length cx, .slice ay x.2.length cy] 50) := ⟨_, rfl⟩
      have b2 : Below wr.heap.size wr w2 := by rw [hw2]; exact (Below.refl _ wr).alloc (Nat.le_refl _) _
      have k0 : w2.cell? ⟨wr.heap.size, 0, none⟩ = some (.slice ax x.1.length cx) := by rw [hw2]; go_simp
      have k1 : w2.cell? ⟨wr.heap.size, 1, none⟩ = some (.slice ay x.2.length cy) := by rw [hw2]; go_simp
      have hr2 := hr.below b2
      have hr3 := hr'.below b2
      have hf2 := hf.grow b2
      have b02 := Keeps.step hb b2
      have HW2 := Lib.hid hw2
      have d0 : ¬ 9223372036854775807 < (ByteArray.mk #[40]).size + (bs (fmtP x.2)).size := by simp only [ByteArray.size_append, sz1, sz3]; omega
      have d1 : ¬ 9223372036854775807 < 1 + (bs (fmtP x.2)).size := by omega
      have d2 : ¬ 9223372036854775807 < (⟨#[40]⟩ ++ bs (fmtP x.2)).size + (ByteArray.mk #[41]).size := by simp only [ByteArray.size_append, sz1, sz3]; omega
      have d3 : ¬ 9223372036854775807 < 1 + (bs (fmtP x.2)).size + 1 := by omega
      have d4 : ¬ 9223372036854775807 < (⟨#[40]⟩ ++ bs (fmtP x.2) ++ ⟨#[41]⟩).size + (bs (fmtWd x.1)).size := by simp only [ByteArray.size_append, sz1, sz3]; omega
      have d5 : ¬ 9223372036854775807 < 1 + (bs (fmtP x.2)).size + 1 + (bs (fmtWd x.1)).size := by omega
      have HAA : Hid (⟨#[40]⟩ ++ bs (fmtP x.2) ++ ⟨#[41]⟩ ++ bs (fmtWd x.1) = bs (fmtT x)) := Lib.hid (by
        rw [show (⟨#[40]⟩ : ByteArray) = bs [40] from rfl, show (⟨#[41]⟩ : ByteArray) = bs [41] from rfl]
        simp only [bs_app]
        try unfold fmtT
        try simp)
      have l0 : wr.heap.size < w2.heap.size := by rw [hw2]; simp
      have hne : some wr.heap.size ≠ z.ownBlock := fun e => by have := (hf.2 _ e.symm).2; omega
      have hlk := HLL.out k
      have hlk1 : ((L.map fmtT).take k).length + 1 ≤ 67108864 := by omega
      clear hw2
      go_wp2_with fail
      rw [← HW2.out]
      go_region_held3 (fun w' => w'.cell? ⟨wr.heap.size, 0, none⟩ = some (.slice ax x.1.length cx) ∧ w'.cell? ⟨wr.heap.size, 1, none⟩ = some (.slice ay x.2.length cy)) (first | go_keep | exact ⟨(b3.cell (p := ⟨wr.heap.size, 0, none⟩) l0).trans k0, (b3.cell (p := ⟨wr.heap.size, 1, none⟩) l0).trans k1⟩ | exact ⟨(b4.cell (p := ⟨wr.heap.size, 0, none⟩) (Nat.lt_of_lt_of_le l0 b3.size)).trans ((b3.cell (p := ⟨wr.heap.size, 0, none⟩) l0).trans k0), (b4.cell (p := ⟨wr.heap.size, 1, none⟩) (Nat.lt_of_lt_of_le l0 b3.size)).trans ((b3.cell (p := ⟨wr.heap.size, 1, none⟩) l0).trans k1)⟩ | exact ⟨hgrow.cell (cell_alloc ((b4.cell (p := ⟨wr.heap.size, 0, none⟩) (Nat.lt_of_lt_of_le l0 b3.size)).trans ((b3.cell (p := ⟨wr.heap.size, 0, none⟩) l0).trans k0)) _) hne, hgrow.cell (cell_alloc ((b4.cell (p := ⟨wr.heap.size, 1, none⟩) (Nat.lt_of_lt_of_le l0 b3.size)).trans ((b3.cell (p := ⟨wr.heap.size, 1, none⟩) l0).trans k1)) _) hne⟩) (first
        | (go_at_call 27; refine (formatPolyImpl hr3.drew hx2 hx4 (HT.out.on ((b02.drew).mono hB)) (Nat.le_trans hB b02.size)).mono ?_; rintro e w3 ⟨rfl, b3⟩)
        | (go_at_call 28; refine (formatWordImpl (hr2.drew.below b3) hx1 hx3).mono ?_; rintro e w4 ⟨rfl, b4⟩)
        | (refine step_appStr (W := w) (y := fmtT x) (by rfl) _ _ (by rfl) (by rfl) (((hf2.grow ((Below.refl _ w2).drew)).grow (Keeps.step b3 b4)).grow ((Below.refl _ w4).alloc (Nat.le_refl _) _)) ((Keeps.step b02.drew (Keeps.step b3 b4)).alloc (Keeps.step b02.drew (Keeps.step b3 b4)).size _) (by rfl) (by rw [← HAA.out]; go_simp) hlk1 ?_; intro v9 w9 f9 b9 hgrow))
      rw [← HST.out k x hx.out] at f9
      go_wp2_with fail
      go_roundw
      case rel => exact ⟨k + 1, _, rfl, by omega, by go_num, f9, b9⟩
      case measure => simp [intOf]; omega
    · have hkm : k = m := by omega
      have i1 : ¬ (k : Int) < (m : Int) := by omega
      rw [hkm, HN.out] at hf
      clear hkm
      have e32 : bs [32, 43, 32] = ⟨#[32, 43, 32]⟩ := rfl
      have hj := joinTexts (sp := [32, 43, 32]) hf (by rw [HML.out]; omega) (fun x hx => by have := HJ.out x hx; omega) (by decide)
      rw [e32] at hj
      go_wp2_with fail
      refine hj.mono ?_
      rintro e w3 ⟨rfl, b3⟩
      go_wp2_with fail
      go_ret
      rw [HR.out]
      exact ⟨rfl, Keeps.step hb b3⟩

theorem RTermW.wf {w : World} {v : Value} {L : List Trm} (h : RL2 none Any RTermW w v L) : ∀ x ∈ L, InL x.1 ∧ InL x.2 := by
  intro x hx
  obtain ⟨a, cap, _, _, h⟩ := h
  rcases h with h | ⟨b, o, _, _, _, h⟩
  · subst h; cases hx
  · obtain ⟨j, hj⟩ := List.getElem?_of_mem hx
    obtain ⟨r, r', _, _, h2⟩ := h j x hj
    exact ⟨fun y hy => i64_in (RIW.wf h2.1 y hy), fun y hy => i64_in (RIW.wf h2.2 y hy)⟩
theorem trm_le : ∀ {L : List Trm} {x : Trm}, x ∈ L → x.1.length + x.2.length ≤ totalT L
  | y :: L, x, h => by
    have h3 : totalT (y :: L) = totalT L + 1 + y.1.length + y.2.length := by simp [totalT, flatT]; omega
    rw [List.mem_cons] at h
    rcases h with rfl | h
    · omega
    · have := trm_le h; omega
theorem tOk_of {L : List Trm} (h : ∀ x ∈ L, InL x.1 ∧ InL x.2) (hl : totalT L ≤ 1048576) : TOk L ∧ L.length ≤ 1048576 :=
  ⟨fun x hx => ⟨(h x hx).1, (h x hx).2, by have := trm_le hx; omega, by have := trm_le hx; omega⟩, by unfold totalT at hl; omega⟩
theorem formatHeckeSpec' {S : Nat → Prop} {v : Value} {L : List Trm} {w : World} (h : RT S w v L) (_ : totalT L ≤ 16777216) (hi : TOk L ∧ L.length ≤ 1048576) :
    Calls Tryd.prog 11 #[v] w fun e w' => e = .returned (.string (bs (fmtHk L))) ∧ Below w.heap.size w w' := formatHeckeSpec h hi.1 hi.2
theorem formatHeckeImpl' {S : Nat → Prop} {v : Value} {L : List Trm} {w : World} {B : Nat} (h : RT S w v L) (_ : totalT L ≤ 16777216) (hi : TOk L ∧ L.length ≤ 1048576) (ht : Tab B w) (hB : B ≤ w.heap.size) :
    Calls Tryd.prog 13 #[v] w fun e w' => e = .returned (.string (bs (fmtHk L))) ∧ Below w.heap.size w w' := formatHeckeImpl h hi.1 hi.2 ht hB
end Go.Proofs.YteglcjembimegaaDoor
