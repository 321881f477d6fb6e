/- Weights and characters as text. Condition: sizes up to 2^20. -/
import Derived.Test.YteglcjembimegaaDoorStrs
import Derived.Test.YteglcjembimegaaDoorLawWtd
import Derived.Test.YteglcjembimegaaDoorOpen
import Derived.Test.YteglcjembimegaaDoorTail
import Derived.BigQuiet
import Derived.Deep.RegionHeld3
namespace Go.Proofs.YteglcjembimegaaDoor
open Go.RowKit
set_option maxRecDepth 20000

theorem bs_ne {l : List UInt8} (h : l ≠ []) : (bs l).toList.isEmpty = false := by
  have e : (bs l).toList = l := by simp [bs, ByteArray.toList_eq]
  rw [e]
  cases l with
  | nil => exact absurd rfl h
  | cons a l => rfl

set_option maxHeartbeats 1000000 in
theorem formatWeightSpec {S : Nat → Prop} {v : Value} {l : List Int} {w : World} (h : RI S w v l) (hi : InL l) (hl : l.length ≤ 1048576) :
    Calls Tryd.prog 16 #[v] w fun e w' => e = .returned (.string (bs (fmtW l))) ∧ Below w.heap.size w w' := by
  obtain ⟨a, cap, rfl⟩ := h.form
  have HI := Lib.hid hi
  have HST := Lib.hid (fun (k : Nat) (x : Int) (hx : l[k]? = some x) => (show fmtW (l.take (k + 1)) = if k = 0 then Lib.itoa x else fmtW (l.take k) ++ ([44] ++ Lib.itoa x) from by
    unfold fmtW
    rw [map_take_step Lib.itoa hx, jn_snoc]
    have hk : k < l.length := (List.getElem?_eq_some_iff.1 hx).1
    by_cases h0 : k = 0
    · subst h0; simp
    · rw [if_neg h0, if_neg]
      intro e
      have := congrArg List.length e
      rw [List.length_map, List.length_take, List.length_nil] at this
      omega))
  have H0 : Hid (fmtW (l.take 0) = []) := Lib.hid (by simp [fmtW, jn, Lib.join_nil])
  have HN : Hid (fmtW (l.take l.length) = fmtW l) := Lib.hid (by simp)
  have HLL : Hid (∀ k, (fmtW (l.take k)).length ≤ k * 22) := Lib.hid (fun k => by
    have := fmtW_len (l := l.take k) (fun x hx => hi x (List.mem_of_mem_take hx))
    have h2 : (l.take k).length ≤ k := by simp; omega
    have := Nat.mul_le_mul_right 22 h2
    omega)
  generalize hm : l.length = m at *
  have HM := Lib.hid hm
  clear hm hi
  have HE : Hid (bs [] = ⟨#[]⟩) := Lib.hid rfl
  go_enter Tryd.func16, Tryd.ntmps16
  go_wp2_with fail
  go_loopw [3, 4] (fun s j wr => ∃ (k : Nat), k ≤ m ∧ j = .int .i64 k ∧ s = .string (bs (fmtW (l.take k))) ∧ Below w.heap.size w wr) (fun _ j _ => m - (intOf j).toNat)
  case atStart => exact ⟨0, Nat.zero_le _, rfl, by rw [H0.out, HE.out], Below.refl _ _⟩
  case round =>
    obtain ⟨k, hk, rfl, rfl, hb⟩ := hrel
    by_cases h1 : k < m
    · obtain ⟨b, o, x, e8, hcx, hx⟩ := (h.below hb).at h1
      subst e8
      have i1 : (k : Int) < (m : Int) := by omega
      have hx' := HI.out x (List.mem_of_getElem? hx.out)
      have hst := HST.out k x hx.out
      have hlk := HLL.out k
      have hit := Lib.itoa_length_le x hx'.1 hx'.2
      generalize fmtW (l.take k) = A at *
      generalize hA' : fmtW (l.take (k + 1)) = A' at *
      have HA' := Lib.hid hA'
      clear hA'
      by_cases h0 : k = 0
      · rw [if_pos h0] at hst
        have HA : Hid (A' = Lib.itoa x) := Lib.hid hst
        have hA : A = [] := List.eq_nil_of_length_eq_zero (by omega)
        have HAA : Hid (bs A ++ bs (Lib.itoa x) = bs A') := Lib.hid (by rw [hA, HA.out]; rfl)
        have c1 : ¬ 9223372036854775807 < (bs A).size + (bs (Lib.itoa x)).size := by rw [bs_size, bs_size]; omega
        have i2 : ¬ 0 < (k : Int) := by omega
        clear hst hA h0
        go_wp2_with fail
        refine (formatIntSpec hx').mono ?_
        rintro e w2 ⟨rfl, b2⟩
        go_wp2_with fail
        go_roundw
        case rel => exact ⟨k + 1, by omega, by go_num, by rw [HAA.out, ← HA'.out], Keeps.step hb b2⟩
        case measure => simp [intOf]; omega
      · rw [if_neg h0] at hst
        have HAA : Hid (bs A ++ ⟨#[44]⟩ ++ bs (Lib.itoa x) = bs A') := Lib.hid (by
          rw [show (⟨#[44]⟩ : ByteArray) = bs [44] from rfl, bs_app, bs_app, hst, List.append_assoc])
        have c0 : ¬ 9223372036854775807 < (bs A).size + (ByteArray.mk #[44]).size := by rw [bs_size]; show ¬ _ < _ + 1; omega
        have c0' : ¬ 9223372036854775807 < (bs A).size + 1 := by rw [bs_size]; omega
        have c1 : ¬ 9223372036854775807 < (bs A ++ ⟨#[44]⟩).size + (bs (Lib.itoa x)).size := by rw [show (⟨#[44]⟩ : ByteArray) = bs [44] from rfl, bs_app, bs_size, bs_size]; simp; omega
        have i2 : 0 < (k : Int) := by omega
        clear hst h0
        go_wp2_with fail
        refine (formatIntSpec hx').mono ?_
        rintro e w2 ⟨rfl, b2⟩
        go_wp2_with fail
        go_roundw
        case rel => exact ⟨k + 1, by omega, by go_num, by rw [HAA.out, ← HA'.out], Keeps.step hb b2⟩
        case measure => simp [intOf]; omega
    · have hkm : k = m := by omega
      have i1 : ¬ (k : Int) < (m : Int) := by omega
      rw [hkm, HN.out]
      clear hkm
      go_wp2_with fail
      go_ret
      exact ⟨rfl, hb⟩

/-- A weight and how often it comes. -/
def fmt1 (x : Wtd) : List UInt8 := fmtW x.1 ++ ([58] ++ Lib.itoa x.2)
def fmtC (L : List Wtd) : List UInt8 := if L = [] then [110, 111, 110, 101] else jn [32] (L.map fmt1)
def WOk (L : List Wtd) : Prop := ∀ x ∈ L, InL x.1 ∧ (-9223372036854775808 ≤ x.2 ∧ x.2 ≤ 9223372036854775807) ∧ x.1.length ≤ 1048576
theorem fmt1_len {x : Wtd} (h : InL x.1 ∧ (-9223372036854775808 ≤ x.2 ∧ x.2 ≤ 9223372036854775807) ∧ x.1.length ≤ 1048576) : (fmt1 x).length ≤ 33554432 := by
  have h1 := fmtW_len h.1
  have h2 := Lib.itoa_length_le x.2 h.2.1.1 h.2.1.2
  unfold fmt1
  simp
  omega
theorem fmts_len {L : List Wtd} (h : WOk L) : ∀ x ∈ L.map fmt1, x.length ≤ 33554432 := by
  intro x hx
  obtain ⟨y, hy, rfl⟩ := List.mem_map.1 hx
  exact fmt1_len (h y hy)

theorem jn_take_len (sp : List UInt8) (q q' : Nat) (hq : q + sp.length = q') (xs : List (List UInt8)) (h : ∀ x ∈ xs, x.length ≤ q) (k : Nat) : (jn sp (xs.take k)).length ≤ k * q' := by
  have h1 := jn_len sp q (xs.take k) (fun x hx => h x (List.mem_of_mem_take hx))
  rw [hq] at h1
  have h2 : (xs.take k).length ≤ k := by simp; omega
  exact Nat.le_trans h1 (Nat.mul_le_mul_right q' h2)

set_option maxHeartbeats 1000000 in
theorem formatCharacterSpec {S : Nat → Prop} {v : Value} {L : List Wtd} {w : World} (h : RW S w v L) (hi : WOk L) (hl : L.length ≤ 1048576) :
    Calls Tryd.prog 6 #[v] w fun e w' => e = .returned (.string (bs (fmtC L))) ∧ Below w.heap.size w w' := by
  obtain ⟨a, cap, rfl⟩ := h.form
  have HI := Lib.hid hi
  have HST := Lib.hid (fun (k : Nat) (x : Wtd) (hx : L[k]? = some x) => (show jn [32] ((L.map fmt1).take (k + 1)) = if k = 0 then fmt1 x else jn [32] ((L.map fmt1).take k) ++ ([32] ++ fmt1 x) from by
    rw [take_step (L := L.map fmt1) (k := k) (x := fmt1 x) (by rw [List.getElem?_map, hx]; rfl), jn_snoc]
    have hk : k < L.length := (List.getElem?_eq_some_iff.1 hx).1
    by_cases h0 : k = 0
    · subst h0; simp
    · rw [if_neg h0, if_neg]
      intro e
      have := congrArg List.length e
      rw [List.length_take, List.length_map, List.length_nil] at this
      omega))
  have HF := Lib.hid (show (L = [] → fmtC L = [110, 111, 110, 101]) ∧ (L ≠ [] → fmtC L = jn [32] ((L.map fmt1).take L.length) ∧ jn [32] ((L.map fmt1).take L.length) ≠ []) from by
    refine ⟨fun e => by unfold fmtC; rw [if_pos e], fun e => ?_⟩
    have e2 : (L.map fmt1).take L.length = L.map fmt1 := List.take_of_length_le (by simp)
    refine ⟨by unfold fmtC; rw [if_neg e, e2], ?_⟩
    rw [e2]
    cases L with
    | nil => exact absurd rfl e
    | cons x r =>
      intro e3
      have := congrArg List.length e3
      simp [jn, Lib.join_cons, fmt1] at this)
  have H0 : Hid (jn [32] ((L.map fmt1).take 0) = []) := Lib.hid rfl
  have HLL : Hid (∀ k, (jn [32] ((L.map fmt1).take k)).length ≤ k * 33554433) := Lib.hid (fun k => by
    exact jn_take_len [32] 33554432 33554433 rfl (L.map fmt1) (fmts_len hi) k)
  generalize hm : L.length = m at *
  have HM := Lib.hid hm
  clear hm hi
  generalize fmtC L = res at *
  have HE : Hid (bs [] = ⟨#[]⟩) := Lib.hid rfl
  go_enter Tryd.func6, Tryd.ntmps6
  go_wp2_with fail
  go_loopw [3, 4] (fun s j wr => ∃ (k : Nat), k ≤ m ∧ j = .int .i64 k ∧ s = .string (bs (jn [32] ((L.map fmt1).take k))) ∧ Below w.heap.size w wr) (fun _ j _ => m - (intOf j).toNat)
  case atStart => exact ⟨0, Nat.zero_le _, rfl, by rw [H0.out, HE.out], Below.refl _ _⟩
  case round =>
    obtain ⟨k, hk, rfl, rfl, hb⟩ := hrel
    by_cases h1 : k < m
    · obtain ⟨b, o, r, r', x, e8, hc, hc', ⟨hr, hr'⟩, hx⟩ := (h.below hb).at h1
      subst e8 hr'
      obtain ⟨ax, cx, rfl⟩ := hr.form
      have i1 : (k : Int) < (m : Int) := by omega
      obtain ⟨hx1, hx2, hx3⟩ := HI.out x (List.mem_of_getElem? hx.out)
      have hst := HST.out k x hx.out
      have hlk := HLL.out k
      have hit := Lib.itoa_length_le x.2 hx2.1 hx2.2
      have hfw := fmtW_len hx1
      generalize jn [32] ((L.map fmt1).take k) = A at *
      generalize hA' : jn [32] ((L.map fmt1).take (k + 1)) = A' at *
      have HA' := Lib.hid hA'
      clear hA'
      have g0 := fun y : GW wr => y.cell hc
      have g1 := fun y : GW wr => y.cell hc'
      have c1 : ¬ 9223372036854775807 < (bs A).size + (bs (fmtW x.1)).size := by rw [bs_size, bs_size]; omega
      by_cases h0 : k = 0
      · rw [if_pos h0] at hst
        have hA : A = [] := List.eq_nil_of_length_eq_zero (by omega)
        have HAA : Hid (bs A ++ bs (fmtW x.1) ++ ⟨#[58]⟩ ++ bs (Lib.itoa x.2) = bs A') := Lib.hid (by
          rw [show (⟨#[58]⟩ : ByteArray) = bs [58] from rfl, bs_app, bs_app, bs_app, hst, hA]
          unfold fmt1
          simp)
        have c2 : ¬ 9223372036854775807 < (bs A ++ bs (fmtW x.1)).size + (ByteArray.mk #[58]).size := by rw [show (ByteArray.mk #[58]).size = 1 from rfl, bs_app, bs_size]; simp; omega
        have c2' : ¬ 9223372036854775807 < (bs A ++ bs (fmtW x.1)).size + 1 := by rw [bs_app, bs_size]; simp; omega
        have c3 : ¬ 9223372036854775807 < (bs A ++ bs (fmtW x.1) ++ ⟨#[58]⟩).size + (bs (Lib.itoa x.2)).size := by rw [show (⟨#[58]⟩ : ByteArray) = bs [58] from rfl, bs_app, bs_app, bs_size, bs_size]; simp; omega
        have i2 : ¬ 0 < (k : Int) := by omega
        clear hst hA h0
        go_wp2_with fail
        refine region_grow (by kernel_rfl) (by kernel_rfl) ?_
        repeat (go_big_quiet_step ((first | (rename_i y; go_at_call 16; exact Calls.grow y (formatWeightSpec (hr.below y.le) hx1 hx3)) | (rename_i y; go_at_call 17; exact Calls.grow y (formatIntSpec hx2)))))
        refine wpQuiet_nil ?_
        intro w8 hb8
        go_wp2_with fail
        go_roundw
        case rel => exact ⟨k + 1, by omega, by go_num, by rw [HAA.out, ← HA'.out], Keeps.step hb hb8⟩
        case measure => simp [intOf]; omega
      · rw [if_neg h0] at hst
        have HAA : Hid (bs A ++ ⟨#[32]⟩ ++ bs (fmtW x.1) ++ ⟨#[58]⟩ ++ bs (Lib.itoa x.2) = bs A') := Lib.hid (by
          rw [show (⟨#[58]⟩ : ByteArray) = bs [58] from rfl, show (⟨#[32]⟩ : ByteArray) = bs [32] from rfl, bs_app, bs_app, bs_app, bs_app, hst]
          unfold fmt1
          simp)
        have c0 : ¬ 9223372036854775807 < (bs A).size + (ByteArray.mk #[32]).size := by rw [show (ByteArray.mk #[32]).size = 1 from rfl, bs_size]; omega
        have c0' : ¬ 9223372036854775807 < (bs A).size + 1 := by rw [bs_size]; omega
        have c1 : ¬ 9223372036854775807 < (bs A ++ ⟨#[32]⟩).size + (bs (fmtW x.1)).size := by rw [show (⟨#[32]⟩ : ByteArray) = bs [32] from rfl, bs_app, bs_size, bs_size]; simp; omega
        have c2 : ¬ 9223372036854775807 < (bs A ++ ⟨#[32]⟩ ++ bs (fmtW x.1)).size + (ByteArray.mk #[58]).size := by rw [show (ByteArray.mk #[58]).size = 1 from rfl, show (⟨#[32]⟩ : ByteArray) = bs [32] from rfl, bs_app, bs_app, bs_size]; simp; omega
        have c2' : ¬ 9223372036854775807 < (bs A ++ ⟨#[32]⟩ ++ bs (fmtW x.1)).size + 1 := by rw [show (⟨#[32]⟩ : ByteArray) = bs [32] from rfl, bs_app, bs_app, bs_size]; simp; omega
        have c3 : ¬ 9223372036854775807 < (bs A ++ ⟨#[32]⟩ ++ bs (fmtW x.1) ++ ⟨#[58]⟩).size + (bs (Lib.itoa x.2)).size := by rw [show (⟨#[58]⟩ : ByteArray) = bs [58] from rfl, show (⟨#[32]⟩ : ByteArray) = bs [32] from rfl, bs_app, bs_app, bs_app, bs_size, bs_size]; simp; omega
        have i2 : 0 < (k : Int) := by omega
        clear hst h0
        go_wp2_with fail
        refine region_grow (by kernel_rfl) (by kernel_rfl) ?_
        repeat (go_big_quiet_step ((first | (rename_i y; go_at_call 16; exact Calls.grow y (formatWeightSpec (hr.below y.le) hx1 hx3)) | (rename_i y; go_at_call 17; exact Calls.grow y (formatIntSpec hx2)))))
        refine wpQuiet_nil ?_
        intro w8 hb8
        go_wp2_with fail
        go_roundw
        case rel => exact ⟨k + 1, by omega, by go_num, by rw [HAA.out, ← HA'.out], Keeps.step hb hb8⟩
        case measure => simp [intOf]; omega
    · have hkm : k = m := by omega
      have i1 : ¬ (k : Int) < (m : Int) := by omega
      rw [hkm]
      clear hkm
      by_cases h0 : L = []
      · have HR : Hid (bs res = ⟨#[110, 111, 110, 101]⟩) := Lib.hid (by rw [HF.out.1 h0]; rfl)
        have hz : jn [32] ((L.map fmt1).take m) = [] := by rw [h0]; simp [jn, Lib.join_nil]
        rw [hz, HE.out]
        clear hz
        go_wp2_with fail
        go_ret
        rw [HR.out]
        exact ⟨rfl, hb⟩
      · obtain ⟨e1, e2⟩ := HF.out.2 h0
        have HR : Hid (res = jn [32] ((L.map fmt1).take m)) := Lib.hid e1
        have c1 := bs_ne e2
        clear e1 e2
        go_wp2_with fail
        go_ret
        rw [HR.out]
        exact ⟨rfl, hb⟩

set_option maxHeartbeats 1000000 in
theorem formatCharacterImpl {S : Nat → Prop} {v : Value} {L : List Wtd} {w : World} {B : Nat} (h : RW S w v L) (hi : WOk L) (hl : L.length ≤ 1048576) (ht : Tab B w) (hB : B ≤ w.heap.size) :
    Calls Tryd.prog 8 #[v] w fun e w' => e = .returned (.string (bs (fmtC L))) ∧ Below w.heap.size w w' := by
  obtain ⟨a, cap, rfl⟩ := h.form
  have HI := Lib.hid hi
  have HT := Lib.hid ht
  have HJ := Lib.hid (fmts_len hi)
  have HST := Lib.hid (fun (k : Nat) (x : Wtd) (hx : L[k]? = some x) => take_step (L := L.map fmt1) (k := k) (x := fmt1 x) (by rw [List.getElem?_map, hx]; rfl))
  have HF := Lib.hid (show (L.length = 0 → fmtC L = [110, 111, 110, 101]) ∧ (L.length ≠ 0 → fmtC L = jn [32] (L.map fmt1)) from
    ⟨fun e => by unfold fmtC; rw [if_pos (List.eq_nil_of_length_eq_zero e)], fun e => by unfold fmtC; rw [if_neg (fun h => e (by rw [h]; rfl))]⟩)
  have H0 : Hid ((L.map fmt1).take 0 = []) := Lib.hid rfl
  have HN : Hid ((L.map fmt1).take L.length = L.map fmt1) := Lib.hid (List.take_of_length_le (by simp))
  have HLL : Hid (∀ k, ((L.map fmt1).take k).length ≤ k) := Lib.hid (fun k => by simp; omega)
  have HML : Hid ((L.map fmt1).length = L.length) := Lib.hid (by simp)
  generalize hm : L.length = m at *
  have HM := Lib.hid hm
  clear hm hi ht
  generalize fmtC L = res at *
  by_cases hz : m = 0
  · have HR : Hid (bs res = ⟨#[110, 111, 110, 101]⟩) := Lib.hid (by rw [HF.out.1 hz]; rfl)
    have i1 : ((m : Int) == 0) = true := by simp; omega
    clear hz
    go_enter Tryd.func8, Tryd.ntmps8
    go_wp2_with fail
    go_ret
    rw [HR.out]
    exact ⟨rfl, Below.refl _ _⟩
  have HR : Hid (res = jn [32] (L.map fmt1)) := Lib.hid (HF.out.2 hz)
  have i0 : ((m : Int) == 0) = false := by simp; omega
  clear hz
  go_enter Tryd.func8, Tryd.ntmps8
  go_wp2_with fail
  have f1 := FS.empty (Below.refl _ w)
  have b1 : Below w.heap.size w (w.alloc (.cells #[] 9)) := (Below.refl _ w).alloc (Nat.le_refl _) _
  generalize w.alloc (.cells #[] 9) = w1 at *
  rw [← H0.out] at f1
  go_loopw [3, 12] (fun zz j wr => ∃ (k : Nat) (z : Value), z = zz ∧ k ≤ m ∧ j = .int .i64 k ∧ FS (New w wr) wr z ((L.map fmt1).take k) ∧ Below w.heap.size w wr) (fun _ j _ => m - (intOf j).toNat)
  case atStart => exact ⟨0, _, rfl, Nat.zero_le _, rfl, f1, b1⟩
  case round =>
    obtain ⟨k, z, rfl, hk, rfl, hf, hb⟩ := hrel
    by_cases h1 : k < m
    · obtain ⟨b, o, r, r', x, e8, hc, hc', ⟨hr, hr'⟩, hx⟩ := (h.below hb).at h1
      subst e8 hr'
      obtain ⟨ax, cx, rfl⟩ := hr.form
      have i1 : (k : Int) < (m : Int) := by omega
      obtain ⟨hx1, hx2, hx3⟩ := HI.out x (List.mem_of_getElem? hx.out)
      have hit := Lib.itoa_length_le x.2 hx2.1 hx2.2
      have hfw := fmtW_len hx1
      obtain ⟨w2, hw2⟩ : ∃ w2, w2 = wr.alloc (.cells #[.slice ax x.1.length cx, .int .i64 x.2] 41) := ⟨_, rfl⟩
      have b2 : Below wr.heap.size wr w2 := by rw [hw2]; exact (Below.refl _ wr).alloc (Nat.le_refl _) _
      have k0 : w2.cell? ⟨wr.heap.size, 0, none⟩ = some (.slice ax x.1.length cx) := by rw [hw2]; go_simp
      have k1 : w2.cell? ⟨wr.heap.size, 1, none⟩ = some (.int .i64 x.2) := by rw [hw2]; go_simp
      have hr2 := hr.below b2
      have hf2 := hf.grow b2
      have b02 := Keeps.step hb b2
      have HW2 := Lib.hid hw2
      have c1 : ¬ 9223372036854775807 < (bs (fmtW x.1)).size + (ByteArray.mk #[58]).size := by rw [show (ByteArray.mk #[58]).size = 1 from rfl, bs_size]; omega
      have c1' : ¬ 9223372036854775807 < (bs (fmtW x.1)).size + 1 := by rw [bs_size]; omega
      have c2 : ¬ 9223372036854775807 < (bs (fmtW x.1) ++ ⟨#[58]⟩).size + (bs (Lib.itoa x.2)).size := by rw [show (⟨#[58]⟩ : ByteArray) = bs [58] from rfl, bs_app, bs_size, bs_size]; simp; omega
      have c3 : ¬ 9223372036854775807 < (bs (fmtW x.1)).size + 1 + (bs (Lib.itoa x.2)).size := by rw [bs_size, bs_size]; omega
      have c4 : ¬ 9223372036854775807 < (bs (fmtW x.1)).size + (ByteArray.mk #[58]).size + (bs (Lib.itoa x.2)).size := by rw [show (ByteArray.mk #[58]).size = 1 from rfl, bs_size, bs_size]; omega
      have HAA : Hid (bs (fmtW x.1) ++ ⟨#[58]⟩ ++ bs (Lib.itoa x.2) = bs (fmt1 x)) := Lib.hid (by
        rw [show (⟨#[58]⟩ : ByteArray) = bs [58] from rfl, bs_app, bs_app]
        unfold fmt1
        simp)
      have l0 : wr.heap.size < w2.heap.size := by rw [hw2]; simp
      have hne : some wr.heap.size ≠ z.ownBlock := fun e => by have := (hf.2 _ e.symm).2; omega
      have hlk := HLL.out k
      have hlk1 : ((L.map fmt1).take k).length + 1 ≤ 67108864 := by omega
      clear hw2 hit hfw
      go_wp2_with fail
      rw [← HW2.out]
      go_region_held3 (fun w' => w'.cell? ⟨wr.heap.size, 0, none⟩ = some (.slice ax x.1.length cx) ∧ w'.cell? ⟨wr.heap.size, 1, none⟩ = some (.int .i64 x.2)) (first | go_keep | exact ⟨(b3.cell (p := ⟨wr.heap.size, 0, none⟩) l0).trans k0, (b3.cell (p := ⟨wr.heap.size, 1, none⟩) l0).trans k1⟩ | exact ⟨(b4.cell (p := ⟨wr.heap.size, 0, none⟩) (Nat.lt_of_lt_of_le l0 b3.size)).trans ((b3.cell (p := ⟨wr.heap.size, 0, none⟩) l0).trans k0), (b4.cell (p := ⟨wr.heap.size, 1, none⟩) (Nat.lt_of_lt_of_le l0 b3.size)).trans ((b3.cell (p := ⟨wr.heap.size, 1, none⟩) l0).trans k1)⟩ | exact ⟨hgrow.cell (cell_alloc ((b4.cell (p := ⟨wr.heap.size, 0, none⟩) (Nat.lt_of_lt_of_le l0 b3.size)).trans ((b3.cell (p := ⟨wr.heap.size, 0, none⟩) l0).trans k0)) _) hne, hgrow.cell (cell_alloc ((b4.cell (p := ⟨wr.heap.size, 1, none⟩) (Nat.lt_of_lt_of_le l0 b3.size)).trans ((b3.cell (p := ⟨wr.heap.size, 1, none⟩) l0).trans k1)) _) hne⟩) (first
        | (go_at_call 19; refine (formatWeightImpl hr2.drew hx1 hx3 (HT.out.on ((b02.drew).mono hB)) (Nat.le_trans hB b02.size)).mono ?_; rintro e w3 ⟨rfl, b3⟩)
        | (go_at_call 20; refine (formatIntImpl hx2 (HT.out.on ((Keeps.step b02.drew b3).mono hB))).mono ?_; rintro e w4 ⟨rfl, b4⟩)
        | (refine step_appStr (W := w) (y := fmt1 x) (by rfl) _ _ (by rfl) (by rfl) (((hf2.grow ((Below.refl _ w2).drew)).grow (Keeps.step b3 b4)).grow ((Below.refl _ w4).alloc (Nat.le_refl _) _)) ((Keeps.step b02.drew (Keeps.step b3 b4)).alloc (Keeps.step b02.drew (Keeps.step b3 b4)).size _) (by rfl) (by rw [← HAA.out]; go_simp) hlk1 ?_; intro v9 w9 f9 b9 hgrow))
      rw [← HST.out k x hx.out] at f9
      go_wp2_with fail
      go_roundw
      case rel => exact ⟨k + 1, _, rfl, by omega, by go_num, f9, b9⟩
      case measure => simp [intOf]; omega
    · have hkm : k = m := by omega
      have i1 : ¬ (k : Int) < (m : Int) := by omega
      rw [hkm, HN.out] at hf
      clear hkm
      have e32 : bs [32] = ⟨#[32]⟩ := rfl
      have hj := joinTexts (sp := [32]) hf (by rw [HML.out]; omega) (fun x hx => by have := HJ.out x hx; omega) (by decide)
      rw [e32] at hj
      go_wp2_with fail
      refine hj.mono ?_
      rintro e w3 ⟨rfl, b3⟩
      go_wp2_with fail
      go_ret
      rw [HR.out]
      exact ⟨rfl, Keeps.step hb b3⟩

theorem i64_in {n : Int} (h : I64 n) : -9223372036854775808 ≤ n ∧ n ≤ 9223372036854775807 := by
  simp only [I64, Lit.wf, Bool.and_eq_true, decide_eq_true_eq] at h
  rw [show IntKind.i64.min = -9223372036854775808 from rfl, show IntKind.i64.max = 9223372036854775807 from rfl] at h
  exact h
theorem RWtdW.wf {w : World} {v : Value} {L : List Wtd} (h : RL2 none Any RWtdW w v L) : ∀ x ∈ L, InL x.1 ∧ (-9223372036854775808 ≤ x.2 ∧ x.2 ≤ 9223372036854775807) := by
  intro x hx
  obtain ⟨a, cap, _, _, h⟩ := h
  rcases h with h | ⟨b, o, _, _, _, h⟩
  · subst h; cases hx
  · obtain ⟨j, hj⟩ := List.getElem?_of_mem hx
    obtain ⟨r, r', _, _, h2⟩ := h j x hj
    exact ⟨fun y hy => i64_in (RIW.wf h2.1 y hy), i64_in h2.2.2⟩
theorem wOk_of {L : List Wtd} (h : ∀ x ∈ L, InL x.1 ∧ (-9223372036854775808 ≤ x.2 ∧ x.2 ≤ 9223372036854775807)) (hl : totalW L ≤ 1048576) : WOk L ∧ L.length ≤ 1048576 :=
  ⟨fun x hx => ⟨(h x hx).1, (h x hx).2, by have := wtd_le hx; omega⟩, by unfold totalW at hl; omega⟩
theorem formatCharacterSpec' {S : Nat → Prop} {v : Value} {L : List Wtd} {w : World} (h : RW S w v L) (_ : totalW L ≤ 16777216) (hi : WOk L ∧ L.length ≤ 1048576) :
    Calls Tryd.prog 6 #[v] w fun e w' => e = .returned (.string (bs (fmtC L))) ∧ Below w.heap.size w w' := formatCharacterSpec h hi.1 hi.2
theorem formatCharacterImpl' {S : Nat → Prop} {v : Value} {L : List Wtd} {w : World} {B : Nat} (h : RW S w v L) (_ : totalW L ≤ 16777216) (hi : WOk L ∧ L.length ≤ 1048576) (ht : Tab B w) (hB : B ≤ w.heap.size) :
    Calls Tryd.prog 8 #[v] w fun e w' => e = .returned (.string (bs (fmtC L))) ∧ Below w.heap.size w w' := formatCharacterImpl h hi.1 hi.2 ht hB
end Go.Proofs.YteglcjembimegaaDoor
