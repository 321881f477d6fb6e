/- Words as text, by the reference. Condition: sizes up to 2^20. -/
import Derived.Test.YteglcjembimegaaDoorFmtC
namespace Go.Proofs.YteglcjembimegaaDoor
open Go.RowKit
set_option maxRecDepth 20000

def okL (x : Int) : Bool := decide (0 ≤ x) && decide (x ≤ 3)
set_option maxHeartbeats 400000 in
theorem inLetter (x : Int) (w : World) :
    Calls Tryd.prog 39 #[.int .i64 x, .int .i64 0, .int .i64 3] w fun e w' => e = .returned (.bool (okL x)) ∧ w = w' := by
  by_cases h1 : 0 ≤ x
  · by_cases h2 : x ≤ 3
    · go_enter Tryd.func39, Tryd.ntmps39
      go_wp2_with fail
      go_ret
      exact ⟨ret_bool (by simp [okL, h1, h2]), rfl⟩
    · go_enter Tryd.func39, Tryd.ntmps39
      go_wp2_with fail
      go_ret
      exact ⟨ret_bool (by simp [okL, h1]; omega), rfl⟩
  · go_enter Tryd.func39, Tryd.ntmps39
    go_wp2_with fail
    go_ret
    exact ⟨ret_bool (by simp [okL]; omega), rfl⟩

theorem bs_empty' {l : List UInt8} (h : l = []) : (bs l).toList.isEmpty = true := by
  have e : (bs l).toList = l := by simp [bs, ByteArray.toList_eq]
  rw [e, h]; rfl

/-- A letter's sign. -/
def dgt (x : Int) : UInt8 := UInt8.ofNat (49 + x.toNat)
def wdT (l : List Int) (k : Nat) : List UInt8 := (l.take k).map dgt
def fmtWd (l : List Int) : List UInt8 := if l = [] then [101] else if l.all okL then l.map dgt else []
theorem wdT_len (l : List Int) (k : Nat) : (wdT l k).length ≤ k := by simp [wdT]; omega
theorem wdT_step {l : List Int} {k : Nat} {x : Int} (h : l[k]? = some x) : wdT l (k + 1) = wdT l k ++ [dgt x] := map_take_step dgt h
theorem fmtWd_bad {l : List Int} {k : Nat} {x : Int} (h : l[k]? = some x) (hx : okL x = false) : fmtWd l = [] := by
  have hm := List.mem_of_getElem? h
  unfold fmtWd
  rw [if_neg (fun e => by rw [e] at hm; cases hm), if_neg]
  intro e
  have := List.all_eq_true.1 e x hm
  rw [hx] at this
  cases this
theorem fmtWd_nil {l : List Int} (h : l.length = 0) : fmtWd l = [101] := by unfold fmtWd; rw [if_pos (List.eq_nil_of_length_eq_zero h)]
theorem fmtWd_ok {l : List Int} (h : l.length ≠ 0) (ho : ∀ x ∈ l, okL x = true) : fmtWd l = wdT l l.length := by
  unfold fmtWd wdT
  rw [if_neg (fun e => h (by rw [e]; rfl)), if_pos (List.all_eq_true.2 ho), List.take_of_length_le (Nat.le_refl _)]
theorem ok_step {l : List Int} {k : Nat} {x : Int} (h : l[k]? = some x) (hx : okL x = true) (ho : ∀ y ∈ l.take k, okL y = true) : ∀ y ∈ l.take (k + 1), okL y = true := by
  intro y hy
  rw [take_step h, List.mem_append] at hy
  rcases hy with hy | hy
  · exact ho y hy
  · simp at hy; subst hy; exact hx
theorem okL_in {x : Int} (h : okL x = true) : 0 ≤ x ∧ x ≤ 3 := by simpa [okL] using h
theorem fmtWd_len {l : List Int} : (fmtWd l).length ≤ l.length + 1 := by
  unfold fmtWd
  split
  · simp
  · split <;> simp
theorem itoa_letter {x : Int} (h : 0 ≤ x ∧ x ≤ 3) : Lib.itoa (x + 1) = [dgt x] := by
  obtain ⟨n, rfl⟩ := Int.eq_ofNat_of_zero_le h.1
  unfold Lib.itoa dgt
  rw [if_neg (by omega), show ((n : Int) + 1).toNat = n + 1 by omega, Lib.decDigits_one (by omega), show (n : Int).toNat = n by omega, show 48 + (n + 1) = 49 + n by omega]

set_option maxHeartbeats 1000000 in
theorem formatWordSpec {S : Nat → Prop} {v : Value} {l : List Int} {w : World} (h : RI S w v l) (hi : InL l) (hl : l.length ≤ 1048576) :
    Calls Tryd.prog 25 #[v] w fun e w' => e = .returned (.string (bs (fmtWd l))) ∧ Below w.heap.size w w' := by
  obtain ⟨a, cap, rfl⟩ := h.form
  have HI := Lib.hid hi
  have HST := Lib.hid (fun (k : Nat) (x : Int) (hx : l[k]? = some x) => wdT_step hx)
  have HBAD := Lib.hid (fun (k : Nat) (x : Int) (hx : l[k]? = some x) (h2 : okL x = false) => fmtWd_bad hx h2)
  have HOK := Lib.hid (fun (k : Nat) (x : Int) (hx : l[k]? = some x) (h2 : okL x = true) (ho : ∀ y ∈ l.take k, okL y = true) => ok_step hx h2 ho)
  have HLL := Lib.hid (wdT_len l)
  have HE := Lib.hid (show l.length = 0 → fmtWd l = [101] from fmtWd_nil)
  have HF := Lib.hid (show l.length ≠ 0 → (∀ x ∈ l.take l.length, okL x = true) → fmtWd l = wdT l l.length from fun h ho => fmtWd_ok h (by rwa [List.take_of_length_le (Nat.le_refl _)] at ho))
  have HNL : Hid ((wdT l l.length).length = l.length) := Lib.hid (by simp [wdT])
  have H0 : Hid (bs (wdT l 0) = ⟨#[]⟩) := Lib.hid rfl
  have H00 : Hid (∀ y ∈ l.take 0, okL y = true) := Lib.hid (fun y hy => by simp at hy)
  have HIN : Hid (bs [] = (⟨#[]⟩ : ByteArray)) := Lib.hid rfl
  generalize fmtWd l = res at *
  generalize hm : l.length = m at *
  have HM := Lib.hid hm
  clear hm hi
  go_enter Tryd.func25, Tryd.ntmps25
  go_wp2_with fail
  go_loopw [3, 4] (fun s j wr => ∃ (k : Nat), k ≤ m ∧ j = .int .i64 k ∧ s = .string (bs (wdT l k)) ∧ Hid (∀ y ∈ l.take k, okL y = true) ∧ Below w.heap.size w wr) (fun _ j _ => m - (intOf j).toNat)
  case atStart => exact ⟨0, Nat.zero_le _, rfl, by rw [H0.out], H00, Below.refl _ _⟩
  case round =>
    obtain ⟨k, hk, rfl, rfl, ho, hb⟩ := hrel
    by_cases h1 : k < m
    · obtain ⟨b, o, x, e8, hcx, hx⟩ := (h.below hb).at h1
      subst e8
      have i1 : (k : Int) < (m : Int) := by omega
      have hx' := HI.out x (List.mem_of_getElem? hx.out)
      obtain ⟨hx1, hx2⟩ := hx'
      have hst := HST.out k x hx.out
      have hlk := HLL.out k
      cases hox : okL x with
      | false =>
        have HR := Lib.hid (HBAD.out k x hx.out hox)
        have HC := fun wr => inLetter x wr
        simp only [hox] at HC
        clear hst hox
        go_wp2_with fail
        refine (HC wr).mono ?_
        rintro e w2 ⟨rfl, rfl⟩
        go_wp2_with fail
        go_ret
        exact ⟨by rw [HR.out]; rfl, hb⟩
      | true =>
        have HO := Lib.hid (HOK.out k x hx.out hox ho.out)
        have hin := okL_in hox
        have hit := itoa_letter hin
        have HC := fun wr => inLetter x wr
        simp only [hox] at HC
        have HS := fun wr => formatIntSpec (n := x + 1) (w := wr) (by omega)
        rw [hit] at HS
        have HP : Hid (bs (wdT l k) ++ bs [dgt x] = bs (wdT l (k + 1))) := Lib.hid (by rw [hst, bs_app])
        have c1 : ¬ 9223372036854775807 < (bs (wdT l k)).size + (bs [dgt x]).size := by rw [bs_size, bs_size, List.length_singleton]; omega
        have c2 : ¬ 9223372036854775807 < (bs (wdT l k)).size + 1 := by rw [bs_size]; omega
        have hx3 : x ≤ 3 := hin.2
        have hx0 : 0 ≤ x := hin.1
        clear hst hox hit hin
        go_wp2_with fail
        refine (HC wr).mono ?_
        rintro e w2 ⟨rfl, rfl⟩
        go_wp2_with fail
        refine (HS wr).mono ?_
        rintro e w2 ⟨rfl, b2⟩
        go_wp2_with fail
        go_roundw
        case rel => exact ⟨k + 1, by omega, by go_num, by rw [← HP.out], HO, Keeps.step hb b2⟩
        case measure => simp [intOf]; omega
    · have hkm : k = m := by omega
      have i1 : ¬ (k : Int) < (m : Int) := by omega
      rw [hkm] at ho ⊢
      clear hkm
      by_cases hz : m = 0
      · have HR := Lib.hid (HE.out hz)
        have hA : wdT l m = [] := List.eq_nil_of_length_eq_zero (by rw [HNL.out, hz])
        have j2 := bs_empty' hA
        clear hz hA
        go_wp2_with fail
        go_ret
        exact ⟨by rw [HR.out]; rfl, hb⟩
      · have HR := Lib.hid (HF.out hz ho.out)
        have j2 := bs_ne (l := wdT l m) (fun e => hz (by rw [← HNL.out, e]; rfl))
        clear hz
        go_wp2_with fail
        go_ret
        exact ⟨by rw [HR.out]; rfl, hb⟩
end Go.Proofs.YteglcjembimegaaDoor
